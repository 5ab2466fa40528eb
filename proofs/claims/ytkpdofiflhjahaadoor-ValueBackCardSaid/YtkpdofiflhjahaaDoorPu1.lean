/- The functions of the program, in the small language. Printed by gen.py. -/
import Derived.Test.YtkpdofiflhjahaaDoorPsT
import Derived.Test.YtkpdofiflhjahaaDoorProg
namespace Go.Proofs.YtkpdofiflhjahaaDoor.Ps
set_option maxRecDepth 100000
open Go Go.RowKit
/-! gosem.cut.init -/
def sf2 : SFunc :=
  ⟨0, [], (.region false [⟨(some 0), (.call 1 []), [], none⟩])⟩
theorem c2 : compFunc Tryd.prog [] Tryd.f2 = some sf2 := by kernel_rfl
/-! sortilege/sortilegelaw03.ValueTypes -/
def j3_0 : SCode :=
  (.seq none (.region false [⟨(some 23), (.mov (.t 2)), [], none⟩, ⟨(some 24), (.call 14 [(.t 23)]), [0], none⟩, ⟨(some 22), (.mov (.t 24)), [1], none⟩, ⟨(some 25), (.ext (.t 22) 0), [2], none⟩,
  ⟨(some 26), (.ext (.t 22) 1), [2], none⟩, ⟨(some 7), (.alloc [(.int .i64), (.lst 2)] [(.d (.int .i64 0)), (.nilL 2)]), [], none⟩, ⟨none, (.store 2 (.t 7) (.t 25)), [5, 3, 1, 0, 1, 2, 3, 5], none⟩,
  ⟨(some 8), (.mov (.t 26)), [4, 6, 0, 1, 2, 3, 4, 5, 6], none⟩]) (.seq none (.region false [⟨(some 28), (.mov (.t 2)), [], none⟩, ⟨(some 29), (.call 15 [(.t 28)]), [0], none⟩, ⟨(some 27),
  (.mov (.t 29)), [1], none⟩, ⟨(some 30), (.ext (.t 27) 0), [2], none⟩, ⟨(some 31), (.ext (.t 27) 1), [2], none⟩, ⟨(some 9), (.alloc [(.int .i64), (.lst 2)] [(.d (.int .i64 0)), (.nilL 2)]), [],
  none⟩, ⟨none, (.store 2 (.t 9) (.t 30)), [5, 3, 1, 0, 1, 2, 3, 5], none⟩, ⟨(some 10), (.mov (.t 31)), [4, 6, 0, 1, 2, 3, 4, 5, 6], none⟩]) (.seq none (.region true [⟨(some 32),
  (.load true 2 (.t 3)), [], none⟩, ⟨(some 33), (.call 16 [(.t 32)]), [0], none⟩, ⟨(some 34), (.load true 2 (.t 3)), [], none⟩, ⟨(some 35), (.call 17 [(.t 34)]), [2, 1], none⟩, ⟨(some 36),
  (.bbin .eql (.t 33) (.t 35)), [1, 3], none⟩, ⟨(some 37), (.mov (.t 36)), [4, 3], none⟩, ⟨(some 38), (.load true 2 (.t 3)), [5], (some (5, (37, true)))⟩, ⟨(some 39), (.load true 2 (.t 4)), [5],
  (some (5, (37, true)))⟩, ⟨(some 40), (.call 18 [(.t 38), (.t 39)]), [6, 7, 5, 5], (some (5, (37, true)))⟩, ⟨(some 41), (.load true 2 (.t 3)), [5], (some (5, (37, true)))⟩, ⟨(some 42),
  (.load true 2 (.t 4)), [5], (some (5, (37, true)))⟩, ⟨(some 43), (.call 19 [(.t 41), (.t 42)]), [9, 10, 8, 5], (some (5, (37, true)))⟩, ⟨(some 44), (.bbin .eql (.t 40) (.t 43)), [8, 11, 5],
  (some (5, (37, true)))⟩, ⟨(some 45), (.pick (.t 37) (.t 44) (.k (.one (.d (.bool false))))), [5, 12], none⟩, ⟨(some 46), (.mov (.t 45)), [13, 11], none⟩, ⟨(some 47), (.load true 2 (.t 3)), [14],
  (some (14, (46, true)))⟩, ⟨(some 48), (.call 20 [(.t 47)]), [15, 14, 14], (some (14, (46, true)))⟩, ⟨(some 49), (.load true 2 (.t 3)), [14], (some (14, (46, true)))⟩, ⟨(some 50),
  (.call 21 [(.t 49)]), [17, 16, 14], (some (14, (46, true)))⟩, ⟨(some 51), (.sbin .eql (.t 48) (.t 50)), [16, 18, 14], (some (14, (46, true)))⟩, ⟨(some 52),
  (.pick (.t 46) (.t 51) (.k (.one (.d (.bool false))))), [14, 19], none⟩, ⟨(some 53), (.mov (.t 52)), [20, 18], none⟩, ⟨(some 54), (.load true 2 (.t 7)), [21], (some (21, (53, true)))⟩, ⟨(some 55),
  (.load true 2 (.t 9)), [21], (some (21, (53, true)))⟩, ⟨(some 56), (.call 22 [(.t 54), (.t 55)]), [22, 23, 21, 21], (some (21, (53, true)))⟩, ⟨(some 57),
  (.pick (.t 53) (.t 56) (.k (.one (.d (.bool false))))), [21, 24], none⟩, ⟨(some 58), (.mov (.t 57)), [25, 24], none⟩, ⟨(some 59), (.mov (.t 8)), [26], (some (26, (58, true)))⟩, ⟨(some 60),
  (.mov (.t 10)), [26], (some (26, (58, true)))⟩, ⟨(some 61), (.ibin .i64 .eql (.t 59) (.t 60)), [27, 28, 26], (some (26, (58, true)))⟩, ⟨(some 62),
  (.pick (.t 58) (.t 61) (.k (.one (.d (.bool false))))), [26, 29], none⟩, ⟨(some 63), (.mov (.t 62)), [30, 26], none⟩, ⟨(some 64), (.call 13 []), [31, 31], (some (31, (63, true)))⟩, ⟨(some 65),
  (.pick (.t 63) (.t 64) (.k (.one (.d (.bool false))))), [31, 32], none⟩, ⟨(some 6), (.mov (.t 65)), [33, 32, 0, 1, 2, 3, 4, 5, 6, 7, 8, 9, 10, 11, 12, 13, 14, 15, 16, 17, 18, 19, 20, 21, 22, 23, 24,
  25, 26, 27, 28, 29, 30, 31, 32, 33], none⟩]) .ret)))
def sf3 : SFunc :=
  ⟨3, [(.tmp 6)], (.seq none (.region false [⟨(some 3), (.box [(.int .i64), (.lst 2)] (.t 0)), [], none⟩, ⟨(some 4), (.box [(.int .i64), (.lst 2)] (.t 1)), [], none⟩, ⟨(some 6),
  (.mov (.k (.one (.d (.bool false))))), [], none⟩]) (.seq (some [2, 3, 4]) (.seq none (.region false [⟨(some 11), (.load true 2 (.t 3)), [], none⟩, ⟨(some 12), (.load true 2 (.t 4)), [], none⟩,
  ⟨(some 13), (.lit 24 2 [(.t 11), (.t 12)]), [0, 1], none⟩, ⟨(some 14), (.call 12 [(.k (.one (.d (.int .i64 2000)))), (.t 13)]), [2], none⟩, ⟨(some 15), (.inot (.t 14)), [3], none⟩, ⟨(some 16),
  (.mov (.t 15)), [4, 3], none⟩, ⟨(some 17), (.mov (.t 2)), [5], (some (5, (16, false)))⟩, ⟨(some 18), (.len true (.t 17)), [6, 5], (some (5, (16, false)))⟩, ⟨(some 19),
  (.ibin .i64 .gtr (.t 18) (.k (.one (.d (.int .i64 2000))))), [7, 5], (some (5, (16, false)))⟩, ⟨(some 20), (.pick (.t 16) (.k (.one (.d (.bool true)))) (.t 19)), [5, 8],
  none⟩]) (.cond (.t 20) (.seq none (.region false [⟨(some 21), (.call 13 []), [], none⟩, ⟨(some 6), (.mov (.t 21)), [0, 0, 0], none⟩]) .ret) .skip)) j3_0))⟩
theorem c3 : compFunc Tryd.prog [none, some [2, 3, 4], none, none, none, none, none] Tryd.f3 = some sf3 := by kernel_rfl
/-! sortilege/sortilegelaw03.ValueHas -/
def j4_0 : SCode :=
  (.seq none (.region true [⟨(some 16), (.load true 2 (.t 2)), [], none⟩, ⟨(some 17), (.load true 3 (.t 3)), [], none⟩, ⟨(some 18), (.call 24 [(.t 16), (.t 17)]), [0, 1], none⟩, ⟨(some 19),
  (.load true 2 (.t 2)), [], none⟩, ⟨(some 20), (.load true 3 (.t 3)), [], none⟩, ⟨(some 21), (.call 25 [(.t 19), (.t 20)]), [3, 4, 2], none⟩, ⟨(some 22), (.bbin .eql (.t 18) (.t 21)), [2, 5], none⟩,
  ⟨(some 23), (.mov (.t 22)), [6, 5], none⟩, ⟨(some 24), (.load true 3 (.t 3)), [7], (some (7, (23, true)))⟩, ⟨(some 25), (.call 26 [(.t 24)]), [8, 7, 7], (some (7, (23, true)))⟩, ⟨(some 26),
  (.load true 3 (.t 3)), [7], (some (7, (23, true)))⟩, ⟨(some 27), (.call 27 [(.t 26)]), [10, 9, 7], (some (7, (23, true)))⟩, ⟨(some 28), (.bbin .eql (.t 25) (.t 27)), [9, 11, 7], (some (7, (23,
  true)))⟩, ⟨(some 29), (.pick (.t 23) (.t 28) (.k (.one (.d (.bool false))))), [7, 12], none⟩, ⟨(some 30), (.mov (.t 29)), [13, 11], none⟩, ⟨(some 31), (.load true 3 (.t 3)), [14], (some (14, (30,
  true)))⟩, ⟨(some 32), (.call 28 [(.t 31)]), [15, 14, 14], (some (14, (30, true)))⟩, ⟨(some 33), (.load true 3 (.t 3)), [14], (some (14, (30, true)))⟩, ⟨(some 34), (.call 29 [(.t 33)]), [17, 16, 14],
  (some (14, (30, true)))⟩, ⟨(some 35), (.ibin .i64 .eql (.t 32) (.t 34)), [16, 18, 14], (some (14, (30, true)))⟩, ⟨(some 36), (.pick (.t 30) (.t 35) (.k (.one (.d (.bool false))))), [14, 19], none⟩,
  ⟨(some 37), (.mov (.t 36)), [20, 18], none⟩, ⟨(some 38), (.call 13 []), [21, 21], (some (21, (37, true)))⟩, ⟨(some 39), (.pick (.t 37) (.t 38) (.k (.one (.d (.bool false))))), [21, 22], none⟩,
  ⟨(some 4), (.mov (.t 39)), [23, 22, 0, 1, 2, 3, 4, 5, 6, 7, 8, 9, 10, 11, 12, 13, 14, 15, 16, 17, 18, 19, 20, 21, 22, 23], none⟩]) .ret)
def sf4 : SFunc :=
  ⟨2, [(.tmp 4)], (.seq none (.region false [⟨(some 2), (.box [(.int .i64), (.lst 2)] (.t 0)), [], none⟩, ⟨(some 3), (.box [(.int .i64), (.int .i64), (.lst 3)] (.t 1)), [], none⟩, ⟨(some 4),
  (.mov (.k (.one (.d (.bool false))))), [], none⟩]) (.seq (some [2, 3]) (.seq none (.region false [⟨(some 5), (.load true 2 (.t 2)), [], none⟩, ⟨(some 6), (.lit 24 2 [(.t 5)]), [0], none⟩, ⟨(some 7),
  (.call 12 [(.k (.one (.d (.int .i64 2000)))), (.t 6)]), [1], none⟩, ⟨(some 8), (.inot (.t 7)), [2], none⟩, ⟨(some 9), (.mov (.t 8)), [3, 2], none⟩, ⟨(some 10), (.load true 3 (.t 3)), [4], (some (4,
  (9, false)))⟩, ⟨(some 11), (.lit 36 3 [(.t 10)]), [5, 4], (some (4, (9, false)))⟩, ⟨(some 12), (.call 23 [(.k (.one (.d (.int .i64 2000)))), (.t 11)]), [6, 4, 4], (some (4, (9, false)))⟩,
  ⟨(some 13), (.inot (.t 12)), [7, 4], (some (4, (9, false)))⟩, ⟨(some 14), (.pick (.t 9) (.k (.one (.d (.bool true)))) (.t 13)), [4, 8], none⟩]) (.cond (.t 14) (.seq none (.region false [⟨(some 15),
  (.call 13 []), [], none⟩, ⟨(some 4), (.mov (.t 15)), [0, 0, 0], none⟩]) .ret) .skip)) j4_0))⟩
theorem c4 : compFunc Tryd.prog [none, some [2, 3], none, none, none] Tryd.f4 = some sf4 := by kernel_rfl
/-! sortilege/sortilegelaw03.ValueOrders -/
def j5_0 : SCode :=
  (.seq none (.region true [⟨(some 11), (.load true 3 (.t 2)), [], none⟩, ⟨(some 12), (.load true 3 (.t 3)), [], none⟩, ⟨(some 13), (.call 30 [(.t 11), (.t 12)]), [0, 1], none⟩, ⟨(some 14),
  (.load true 3 (.t 2)), [], none⟩, ⟨(some 15), (.load true 3 (.t 3)), [], none⟩, ⟨(some 16), (.call 31 [(.t 14), (.t 15)]), [3, 4, 2], none⟩, ⟨(some 17), (.ibin .i64 .eql (.t 13) (.t 16)), [2, 5],
  none⟩, ⟨(some 18), (.mov (.t 17)), [6, 5], none⟩, ⟨(some 19), (.load true 3 (.t 2)), [7], (some (7, (18, true)))⟩, ⟨(some 20), (.load true 3 (.t 3)), [7], (some (7, (18, true)))⟩, ⟨(some 21),
  (.call 32 [(.t 19), (.t 20)]), [8, 9, 7, 7], (some (7, (18, true)))⟩, ⟨(some 22), (.load true 3 (.t 2)), [7], (some (7, (18, true)))⟩, ⟨(some 23), (.load true 3 (.t 3)), [7], (some (7, (18,
  true)))⟩, ⟨(some 24), (.call 33 [(.t 22), (.t 23)]), [11, 12, 10, 7], (some (7, (18, true)))⟩, ⟨(some 25), (.bbin .eql (.t 21) (.t 24)), [10, 13, 7], (some (7, (18, true)))⟩, ⟨(some 26),
  (.pick (.t 18) (.t 25) (.k (.one (.d (.bool false))))), [7, 14], none⟩, ⟨(some 27), (.mov (.t 26)), [15, 13], none⟩, ⟨(some 28), (.call 13 []), [16, 16], (some (16, (27, true)))⟩, ⟨(some 29),
  (.pick (.t 27) (.t 28) (.k (.one (.d (.bool false))))), [16, 17], none⟩, ⟨(some 4), (.mov (.t 29)), [18, 17, 0, 1, 2, 3, 4, 5, 6, 7, 8, 9, 10, 11, 12, 13, 14, 15, 16, 17, 18], none⟩]) .ret)
def sf5 : SFunc :=
  ⟨2, [(.tmp 4)], (.seq none (.region false [⟨(some 2), (.box [(.int .i64), (.int .i64), (.lst 3)] (.t 0)), [], none⟩, ⟨(some 3), (.box [(.int .i64), (.int .i64), (.lst 3)] (.t 1)), [], none⟩,
  ⟨(some 4), (.mov (.k (.one (.d (.bool false))))), [], none⟩]) (.seq (some [2, 3]) (.seq none (.region false [⟨(some 5), (.load true 3 (.t 2)), [], none⟩, ⟨(some 6), (.load true 3 (.t 3)), [], none⟩,
  ⟨(some 7), (.lit 36 3 [(.t 5), (.t 6)]), [0, 1], none⟩, ⟨(some 8), (.call 23 [(.k (.one (.d (.int .i64 2000)))), (.t 7)]), [2], none⟩, ⟨(some 9), (.inot (.t 8)), [3],
  none⟩]) (.cond (.t 9) (.seq none (.region false [⟨(some 10), (.call 13 []), [], none⟩, ⟨(some 4), (.mov (.t 10)), [0, 0, 0], none⟩]) .ret) .skip)) j5_0))⟩
theorem c5 : compFunc Tryd.prog [none, some [2, 3], none, none, none] Tryd.f5 = some sf5 := by kernel_rfl
/-! sortilege/sortilegelaw03.ValueTexts -/
def j6_0 : SCode :=
  (.seq none (.region false [⟨(some 28), (.load true 2 (.t 4)), [], none⟩, ⟨(some 29), (.mov (.t 2)), [], none⟩, ⟨(some 30), (.call 34 [(.t 28), (.t 29)]), [0, 1], none⟩, ⟨(some 27), (.mov (.t 30)),
  [2], none⟩, ⟨(some 31), (.ext (.t 27) 0), [3], none⟩, ⟨(some 32), (.ext (.t 27) 1), [3], none⟩, ⟨(some 7), (.alloc [(.int .i64), (.int .i64), (.lst 3)] [(.d (.int .i64 0)), (.d (.int .i64 0)),
  (.nilL 3)]), [], none⟩, ⟨none, (.store 3 (.t 7) (.t 31)), [6, 4, 2, 0, 1, 2, 3, 4, 6], none⟩, ⟨(some 8), (.mov (.t 32)), [5, 7, 0, 1, 2, 3, 4, 5, 6, 7],
  none⟩]) (.seq none (.region false [⟨(some 34), (.load true 2 (.t 4)), [], none⟩, ⟨(some 35), (.mov (.t 2)), [], none⟩, ⟨(some 36), (.call 35 [(.t 34), (.t 35)]), [0, 1], none⟩, ⟨(some 33),
  (.mov (.t 36)), [2], none⟩, ⟨(some 37), (.ext (.t 33) 0), [3], none⟩, ⟨(some 38), (.ext (.t 33) 1), [3], none⟩, ⟨(some 9), (.alloc [(.int .i64), (.int .i64), (.lst 3)] [(.d (.int .i64 0)),
  (.d (.int .i64 0)), (.nilL 3)]), [], none⟩, ⟨none, (.store 3 (.t 9) (.t 37)), [6, 4, 2, 0, 1, 2, 3, 4, 6], none⟩, ⟨(some 10), (.mov (.t 38)), [5, 7, 0, 1, 2, 3, 4, 5, 6, 7],
  none⟩]) (.seq none (.region true [⟨(some 39), (.load true 3 (.t 3)), [], none⟩, ⟨(some 40), (.call 36 [(.t 39)]), [0], none⟩, ⟨(some 41), (.load true 3 (.t 3)), [], none⟩, ⟨(some 42),
  (.call 37 [(.t 41)]), [2, 1], none⟩, ⟨(some 43), (.sbin .eql (.t 40) (.t 42)), [1, 3], none⟩, ⟨(some 44), (.mov (.t 43)), [4, 3], none⟩, ⟨(some 45), (.load true 3 (.t 7)), [5], (some (5, (44,
  true)))⟩, ⟨(some 46), (.load true 3 (.t 9)), [5], (some (5, (44, true)))⟩, ⟨(some 47), (.call 38 [(.t 45), (.t 46)]), [6, 7, 5, 5], (some (5, (44, true)))⟩, ⟨(some 48),
  (.pick (.t 44) (.t 47) (.k (.one (.d (.bool false))))), [5, 8], none⟩, ⟨(some 49), (.mov (.t 48)), [9, 8], none⟩, ⟨(some 50), (.mov (.t 8)), [10], (some (10, (49, true)))⟩, ⟨(some 51),
  (.mov (.t 10)), [10], (some (10, (49, true)))⟩, ⟨(some 52), (.ibin .i64 .eql (.t 50) (.t 51)), [11, 12, 10], (some (10, (49, true)))⟩, ⟨(some 53),
  (.pick (.t 49) (.t 52) (.k (.one (.d (.bool false))))), [10, 13], none⟩, ⟨(some 54), (.mov (.t 53)), [14, 10], none⟩, ⟨(some 55), (.call 13 []), [15, 15], (some (15, (54, true)))⟩, ⟨(some 56),
  (.pick (.t 54) (.t 55) (.k (.one (.d (.bool false))))), [15, 16], none⟩, ⟨(some 6), (.mov (.t 56)), [17, 16, 0, 1, 2, 3, 4, 5, 6, 7, 8, 9, 10, 11, 12, 13, 14, 15, 16, 17], none⟩]) .ret)))
def sf6 : SFunc :=
  ⟨3, [(.tmp 6)], (.seq none (.region false [⟨(some 3), (.box [(.int .i64), (.int .i64), (.lst 3)] (.t 0)), [], none⟩, ⟨(some 4), (.box [(.int .i64), (.lst 2)] (.t 1)), [], none⟩, ⟨(some 6),
  (.mov (.k (.one (.d (.bool false))))), [], none⟩]) (.seq (some [2, 3, 4]) (.seq none (.region false [⟨(some 11), (.load true 3 (.t 3)), [], none⟩, ⟨(some 12), (.lit 36 3 [(.t 11)]), [0], none⟩,
  ⟨(some 13), (.call 23 [(.k (.one (.d (.int .i64 2000)))), (.t 12)]), [1], none⟩, ⟨(some 14), (.inot (.t 13)), [2], none⟩, ⟨(some 15), (.mov (.t 14)), [3, 2], none⟩, ⟨(some 16),
  (.load true 2 (.t 4)), [4], (some (4, (15, false)))⟩, ⟨(some 17), (.lit 24 2 [(.t 16)]), [5, 4], (some (4, (15, false)))⟩, ⟨(some 18), (.call 12 [(.k (.one (.d (.int .i64 2000)))), (.t 17)]), [6, 4,
  4], (some (4, (15, false)))⟩, ⟨(some 19), (.inot (.t 18)), [7, 4], (some (4, (15, false)))⟩, ⟨(some 20), (.pick (.t 15) (.k (.one (.d (.bool true)))) (.t 19)), [4, 8], none⟩, ⟨(some 21),
  (.mov (.t 20)), [9, 7], none⟩, ⟨(some 22), (.mov (.t 2)), [10], (some (10, (21, false)))⟩, ⟨(some 23), (.len true (.t 22)), [11, 10], (some (10, (21, false)))⟩, ⟨(some 24),
  (.ibin .i64 .gtr (.t 23) (.k (.one (.d (.int .i64 2000))))), [12, 10], (some (10, (21, false)))⟩, ⟨(some 25), (.pick (.t 21) (.k (.one (.d (.bool true)))) (.t 24)), [10, 13],
  none⟩]) (.cond (.t 25) (.seq none (.region false [⟨(some 26), (.call 13 []), [], none⟩, ⟨(some 6), (.mov (.t 26)), [0, 0, 0], none⟩]) .ret) .skip)) j6_0))⟩
theorem c6 : compFunc Tryd.prog [none, some [2, 3, 4], none, none, none, none, none] Tryd.f6 = some sf6 := by kernel_rfl
/-! sortilege/sortilegelaw03.ValueLine -/
def j7_1 : SCode :=
  (.seq none (.region false [⟨(some 48), (.mov (.t 7)), [], none⟩, ⟨(some 49), (.ibin .i64 .leq (.t 48) (.k (.one (.d (.int .i64 0))))), [0], none⟩, ⟨(some 50), (.mov (.t 49)), [1], none⟩, ⟨(some 51),
  (.mov (.t 8)), [2], (some (2, (50, true)))⟩, ⟨(some 52), (.ibin .i64 .leq (.t 51) (.k (.one (.d (.int .i64 0))))), [3, 2], (some (2, (50, true)))⟩, ⟨(some 53),
  (.pick (.t 50) (.t 52) (.k (.one (.d (.bool false))))), [2, 4], none⟩, ⟨(some 54), (.mov (.t 53)), [5, 2], none⟩, ⟨(some 55), (.mov (.t 9)), [6], (some (6, (54, true)))⟩, ⟨(some 56),
  (.ibin .i64 .gtr (.t 55) (.k (.one (.d (.int .i64 0))))), [7, 6], (some (6, (54, true)))⟩, ⟨(some 57), (.pick (.t 54) (.t 56) (.k (.one (.d (.bool false))))), [6, 8], none⟩, ⟨(some 58),
  (.inot (.t 57)), [9], none⟩, ⟨(some 59), (.mov (.t 58)), [10, 6], none⟩, ⟨(some 60), (.mov (.t 7)), [11], (some (11, (59, true)))⟩, ⟨(some 61),
  (.ibin .i64 .lss (.t 60) (.k (.one (.d (.int .i64 0))))), [12, 11], (some (11, (59, true)))⟩, ⟨(some 62), (.mov (.t 61)), [13, 11, 11], (some (11, (59, true)))⟩, ⟨(some 63), (.mov (.t 8)), [14],
  (some (14, (62, true)))⟩, ⟨(some 64), (.ibin .i64 .leq (.t 63) (.k (.one (.d (.int .i64 0))))), [15, 14], (some (14, (62, true)))⟩, ⟨(some 65),
  (.pick (.t 62) (.t 64) (.k (.one (.d (.bool false))))), [14, 16, 11], (some (11, (59, true)))⟩, ⟨(some 66), (.mov (.t 65)), [17, 14, 11], (some (11, (59, true)))⟩, ⟨(some 67), (.mov (.t 9)), [18],
  (some (18, (66, true)))⟩, ⟨(some 68), (.ibin .i64 .geq (.t 67) (.k (.one (.d (.int .i64 0))))), [19, 18], (some (18, (66, true)))⟩, ⟨(some 69),
  (.pick (.t 66) (.t 68) (.k (.one (.d (.bool false))))), [18, 20, 11], (some (11, (59, true)))⟩, ⟨(some 70), (.inot (.t 69)), [21, 11], (some (11, (59, true)))⟩, ⟨(some 71),
  (.pick (.t 59) (.t 70) (.k (.one (.d (.bool false))))), [11, 22], none⟩, ⟨(some 72), (.mov (.t 71)), [23, 18], none⟩, ⟨(some 73), (.call 13 []), [24, 24], (some (24, (72, true)))⟩, ⟨(some 74),
  (.pick (.t 72) (.t 73) (.k (.one (.d (.bool false))))), [24, 25], none⟩, ⟨(some 6), (.mov (.t 74)), [26, 25, 0, 1, 2, 3, 4, 5, 6, 7, 8, 9, 10, 11, 12, 13, 14, 15, 16, 17, 18, 19, 20, 21, 22, 23, 24,
  25, 26], none⟩]) .ret)
def j7_0 : SCode :=
  (.seq none (.region true [⟨(some 17), (.load true 3 (.t 3)), [], none⟩, ⟨(some 18), (.load true 3 (.t 4)), [], none⟩, ⟨(some 19), (.call 30 [(.t 17), (.t 18)]), [0, 1], none⟩, ⟨(some 20),
  (.load true 3 (.t 4)), [], none⟩, ⟨(some 21), (.load true 3 (.t 5)), [], none⟩, ⟨(some 22), (.call 30 [(.t 20), (.t 21)]), [3, 4, 2], none⟩, ⟨(some 23), (.load true 3 (.t 3)), [], none⟩, ⟨(some 24),
  (.load true 3 (.t 5)), [], none⟩, ⟨(some 25), (.call 30 [(.t 23), (.t 24)]), [6, 7, 5], none⟩, ⟨(some 7), (.mov (.t 19)), [2, 8, 0, 1, 2], none⟩, ⟨(some 8), (.mov (.t 22)), [5, 9, 0, 1, 2, 3, 4, 5,
  9], none⟩, ⟨(some 9), (.mov (.t 25)), [8, 10, 0, 1, 2, 3, 4, 5, 6, 7, 8, 9, 10], none⟩]) (.seq (some [7, 8, 9]) (.seq none (.region false [⟨(some 26), (.load true 3 (.t 4)), [], none⟩, ⟨(some 27),
  (.load true 3 (.t 3)), [], none⟩, ⟨(some 28), (.call 30 [(.t 26), (.t 27)]), [0, 1], none⟩, ⟨(some 29), (.mov (.t 7)), [], none⟩, ⟨(some 30), (.ineg .i64 (.t 29)), [3], none⟩, ⟨(some 31),
  (.ibin .i64 .neq (.t 28) (.t 30)), [2, 4], none⟩, ⟨(some 32), (.mov (.t 31)), [5, 2], none⟩, ⟨(some 33), (.mov (.t 7)), [6], (some (6, (32, false)))⟩, ⟨(some 34),
  (.ibin .i64 .eql (.t 33) (.k (.one (.d (.int .i64 0))))), [7, 6], (some (6, (32, false)))⟩, ⟨(some 35), (.load true 3 (.t 3)), [6], (some (6, (32, false)))⟩, ⟨(some 36), (.load true 3 (.t 4)), [6],
  (some (6, (32, false)))⟩, ⟨(some 37), (.call 38 [(.t 35), (.t 36)]), [9, 10, 6, 6], (some (6, (32, false)))⟩, ⟨(some 38), (.bbin .neq (.t 34) (.t 37)), [8, 11, 6], (some (6, (32, false)))⟩,
  ⟨(some 39), (.pick (.t 32) (.k (.one (.d (.bool true)))) (.t 38)), [6, 12], none⟩, ⟨(some 40), (.mov (.t 39)), [13, 11], none⟩, ⟨(some 41), (.load true 3 (.t 3)), [14], (some (14, (40, false)))⟩,
  ⟨(some 42), (.load true 3 (.t 4)), [14], (some (14, (40, false)))⟩, ⟨(some 43), (.call 32 [(.t 41), (.t 42)]), [15, 16, 14, 14], (some (14, (40, false)))⟩, ⟨(some 44), (.mov (.t 7)), [14],
  (some (14, (40, false)))⟩, ⟨(some 45), (.ibin .i64 .eql (.t 44) (.k (.one (.d (.int .i64 0))))), [18, 14], (some (14, (40, false)))⟩, ⟨(some 46), (.bbin .neq (.t 43) (.t 45)), [17, 19, 14],
  (some (14, (40, false)))⟩, ⟨(some 47), (.pick (.t 40) (.k (.one (.d (.bool true)))) (.t 46)), [14, 20], none⟩]) (.cond (.t 47) (.seq none (.region false [⟨(some 6),
  (.mov (.k (.one (.d (.bool false))))), [], none⟩]) .ret) .skip)) j7_1))
def sf7 : SFunc :=
  ⟨3, [(.tmp 6)], (.seq none (.region false [⟨(some 3), (.box [(.int .i64), (.int .i64), (.lst 3)] (.t 0)), [], none⟩, ⟨(some 4), (.box [(.int .i64), (.int .i64), (.lst 3)] (.t 1)), [], none⟩,
  ⟨(some 5), (.box [(.int .i64), (.int .i64), (.lst 3)] (.t 2)), [], none⟩, ⟨(some 6), (.mov (.k (.one (.d (.bool false))))), [], none⟩]) (.seq (some [3, 4, 5]) (.seq none (.region false [⟨(some 10),
  (.load true 3 (.t 3)), [], none⟩, ⟨(some 11), (.load true 3 (.t 4)), [], none⟩, ⟨(some 12), (.load true 3 (.t 5)), [], none⟩, ⟨(some 13), (.lit 36 3 [(.t 10), (.t 11), (.t 12)]), [0, 1, 2], none⟩,
  ⟨(some 14), (.call 23 [(.k (.one (.d (.int .i64 2000)))), (.t 13)]), [3], none⟩, ⟨(some 15), (.inot (.t 14)), [4], none⟩]) (.cond (.t 15) (.seq none (.region false [⟨(some 16), (.call 13 []), [],
  none⟩, ⟨(some 6), (.mov (.t 16)), [0, 0, 0], none⟩]) .ret) .skip)) j7_0))⟩
theorem c7 : compFunc Tryd.prog [none, some [3, 4, 5], none, none, none, some [7, 8, 9], none, none, none] Tryd.f7 = some sf7 := by kernel_rfl
/-! sortilege/sortilegelaw03.ValueBack -/
def j8_2 : SCode :=
  (.seq none (.region true [⟨(some 63), (.mov (.t 8)), [], none⟩, ⟨(some 64), (.ibin .i64 .neq (.t 63) (.k (.one (.d (.int .i64 0))))), [0], none⟩, ⟨(some 65), (.mov (.t 64)), [1], none⟩, ⟨(some 66),
  (.load true 2 (.t 2)), [2], (some (2, (65, false)))⟩, ⟨(some 67), (.load true 3 (.t 7)), [2], (some (2, (65, false)))⟩, ⟨(some 68), (.call 24 [(.t 66), (.t 67)]), [3, 4, 2, 2], (some (2, (65,
  false)))⟩, ⟨(some 69), (.mov (.t 68)), [5, 5, 2], (some (2, (65, false)))⟩, ⟨(some 70), (.load true 3 (.t 7)), [6], (some (6, (69, true)))⟩, ⟨(some 71), (.call 36 [(.t 70)]), [7, 6, 6], (some (6,
  (69, true)))⟩, ⟨(some 72), (.load true 3 (.t 3)), [6], (some (6, (69, true)))⟩, ⟨(some 73), (.call 36 [(.t 72)]), [9, 8, 6], (some (6, (69, true)))⟩, ⟨(some 74), (.sbin .eql (.t 71) (.t 73)), [8,
  10, 6], (some (6, (69, true)))⟩, ⟨(some 75), (.pick (.t 69) (.t 74) (.k (.one (.d (.bool false))))), [6, 11, 2], (some (2, (65, false)))⟩, ⟨(some 76),
  (.pick (.t 65) (.k (.one (.d (.bool true)))) (.t 75)), [2, 12], none⟩, ⟨(some 77), (.mov (.t 76)), [13, 10], none⟩, ⟨(some 78), (.call 13 []), [14, 14], (some (14, (77, true)))⟩, ⟨(some 79),
  (.pick (.t 77) (.t 78) (.k (.one (.d (.bool false))))), [14, 15], none⟩, ⟨(some 4), (.mov (.t 79)), [16, 15, 0, 1, 2, 3, 4, 5, 6, 7, 8, 9, 10, 11, 12, 13, 14, 15, 16], none⟩]) .ret)
def j8_1 : SCode :=
  (.seq none (.region true [⟨(some 40), (.load true 2 (.t 2)), [], none⟩, ⟨(some 41), (.load true 3 (.t 3)), [], none⟩, ⟨(some 42), (.call 36 [(.t 41)]), [1], none⟩, ⟨(some 43), (.call 34 [(.t 40),
  (.t 42)]), [0, 2, 2], none⟩, ⟨(some 39), (.mov (.t 43)), [3], none⟩, ⟨(some 44), (.ext (.t 39) 0), [4], none⟩, ⟨(some 45), (.ext (.t 39) 1), [4], none⟩, ⟨(some 7), (.alloc [(.int .i64), (.int .i64),
  (.lst 3)] [(.d (.int .i64 0)), (.d (.int .i64 0)), (.nilL 3)]), [], none⟩, ⟨none, (.store 3 (.t 7) (.t 44)), [7, 5, 3, 0, 1, 2, 3, 4, 5, 7], none⟩, ⟨(some 8), (.mov (.t 45)), [6, 8, 0, 1, 2, 3, 4,
  5, 6, 7, 8], none⟩]) (.seq (some [2, 3, 7, 8]) (.seq none (.region false [⟨(some 46), (.load true 2 (.t 2)), [], none⟩, ⟨(some 47), (.load true 3 (.t 3)), [], none⟩, ⟨(some 48), (.call 24 [(.t 46),
  (.t 47)]), [0, 1], none⟩]) (.cond (.t 48) (.seq none (.region false [⟨(some 49), (.mov (.t 8)), [], none⟩, ⟨(some 50), (.ibin .i64 .eql (.t 49) (.k (.one (.d (.int .i64 0))))), [0], none⟩,
  ⟨(some 51), (.mov (.t 50)), [1], none⟩, ⟨(some 52), (.load true 3 (.t 7)), [2], (some (2, (51, true)))⟩, ⟨(some 53), (.load true 3 (.t 3)), [2], (some (2, (51, true)))⟩, ⟨(some 54),
  (.call 38 [(.t 52), (.t 53)]), [3, 4, 2, 2], (some (2, (51, true)))⟩, ⟨(some 55), (.pick (.t 51) (.t 54) (.k (.one (.d (.bool false))))), [2, 5], none⟩, ⟨(some 56), (.mov (.t 55)), [6, 5], none⟩,
  ⟨(some 57), (.load true 3 (.t 3)), [7], (some (7, (56, true)))⟩, ⟨(some 58), (.call 26 [(.t 57)]), [8, 7, 7], (some (7, (56, true)))⟩, ⟨(some 59),
  (.pick (.t 56) (.t 58) (.k (.one (.d (.bool false))))), [7, 9], none⟩, ⟨(some 60), (.mov (.t 59)), [10, 9], none⟩, ⟨(some 61), (.call 13 []), [11, 11], (some (11, (60, true)))⟩, ⟨(some 62),
  (.pick (.t 60) (.t 61) (.k (.one (.d (.bool false))))), [11, 12], none⟩, ⟨(some 4), (.mov (.t 62)), [13, 12, 0, 1, 2, 3, 4, 5, 6, 7, 8, 9, 10, 11, 12, 13], none⟩]) .ret) .skip)) j8_2))
def j8_0 : SCode :=
  (.seq none (.region false [⟨(some 26), (.load true 2 (.t 2)), [], none⟩, ⟨(some 27), (.call 20 [(.t 26)]), [0], none⟩, ⟨(some 28), (.call 14 [(.t 27)]), [1, 1], none⟩, ⟨(some 25), (.mov (.t 28)), [2],
  none⟩, ⟨(some 29), (.ext (.t 25) 0), [3], none⟩, ⟨(some 30), (.ext (.t 25) 1), [3], none⟩, ⟨(some 5), (.alloc [(.int .i64), (.lst 2)] [(.d (.int .i64 0)), (.nilL 2)]), [], none⟩, ⟨none,
  (.store 2 (.t 5) (.t 29)), [6, 4, 2, 0, 1, 2, 3, 4, 6], none⟩, ⟨(some 6), (.mov (.t 30)), [5, 7, 0, 1, 2, 3, 4, 5, 6, 7], none⟩]) (.seq (some [2, 3]) (.seq none (.region false [⟨(some 31),
  (.mov (.t 6)), [], none⟩, ⟨(some 32), (.ibin .i64 .neq (.t 31) (.k (.one (.d (.int .i64 0))))), [0], none⟩, ⟨(some 33), (.mov (.t 32)), [1], none⟩, ⟨(some 34), (.load true 2 (.t 2)), [2], (some (2,
  (33, false)))⟩, ⟨(some 35), (.load true 2 (.t 5)), [2], (some (2, (33, false)))⟩, ⟨(some 36), (.call 22 [(.t 34), (.t 35)]), [3, 4, 2, 2], (some (2, (33, false)))⟩, ⟨(some 37), (.inot (.t 36)), [5,
  2], (some (2, (33, false)))⟩, ⟨(some 38), (.pick (.t 33) (.k (.one (.d (.bool true)))) (.t 37)), [2, 6], none⟩]) (.cond (.t 38) (.seq none (.region false [⟨(some 4),
  (.mov (.k (.one (.d (.bool false))))), [], none⟩]) .ret) .skip)) j8_1))
def sf8 : SFunc :=
  ⟨2, [(.tmp 4)], (.seq none (.region false [⟨(some 2), (.box [(.int .i64), (.lst 2)] (.t 0)), [], none⟩, ⟨(some 3), (.box [(.int .i64), (.int .i64), (.lst 3)] (.t 1)), [], none⟩, ⟨(some 4),
  (.mov (.k (.one (.d (.bool false))))), [], none⟩]) (.seq (some [2, 3]) (.seq none (.region false [⟨(some 9), (.load true 2 (.t 2)), [], none⟩, ⟨(some 10), (.lit 24 2 [(.t 9)]), [0], none⟩,
  ⟨(some 11), (.call 12 [(.k (.one (.d (.int .i64 2000)))), (.t 10)]), [1], none⟩, ⟨(some 12), (.inot (.t 11)), [2], none⟩, ⟨(some 13), (.mov (.t 12)), [3, 2], none⟩, ⟨(some 14),
  (.load true 3 (.t 3)), [4], (some (4, (13, false)))⟩, ⟨(some 15), (.lit 36 3 [(.t 14)]), [5, 4], (some (4, (13, false)))⟩, ⟨(some 16), (.call 23 [(.k (.one (.d (.int .i64 2000)))), (.t 15)]), [6, 4,
  4], (some (4, (13, false)))⟩, ⟨(some 17), (.inot (.t 16)), [7, 4], (some (4, (13, false)))⟩, ⟨(some 18), (.pick (.t 13) (.k (.one (.d (.bool true)))) (.t 17)), [4, 8], none⟩, ⟨(some 19),
  (.mov (.t 18)), [9, 7], none⟩, ⟨(some 20), (.load true 2 (.t 2)), [10], (some (10, (19, false)))⟩, ⟨(some 21), (.call 16 [(.t 20)]), [11, 10, 10], (some (10, (19, false)))⟩, ⟨(some 22),
  (.inot (.t 21)), [12, 10], (some (10, (19, false)))⟩, ⟨(some 23), (.pick (.t 19) (.k (.one (.d (.bool true)))) (.t 22)), [10, 13], none⟩]) (.cond (.t 23) (.seq none (.region false [⟨(some 24),
  (.call 13 []), [], none⟩, ⟨(some 4), (.mov (.t 24)), [0, 0, 0], none⟩]) .ret) .skip)) j8_0))⟩
theorem c8 : compFunc Tryd.prog [none, some [2, 3], none, none, none, some [2, 3], none, none, none, some [2, 3, 7, 8], none, none, none] Tryd.f8 = some sf8 := by kernel_rfl
/-! sortilege/sortilegelaw03.ValueRead -/
def j9_1 : SCode :=
  (.seq none (.region false [⟨(some 48), (.mov (.t 6)), [], none⟩, ⟨(some 49), (.ibin .i64 .neq (.t 48) (.k (.one (.d (.int .i64 0))))), [0], none⟩, ⟨(some 50), (.mov (.t 49)), [1], none⟩, ⟨(some 51),
  (.load true 3 (.t 5)), [2], (some (2, (50, false)))⟩, ⟨(some 52), (.call 36 [(.t 51)]), [3, 2, 2], (some (2, (50, false)))⟩, ⟨(some 53), (.mov (.t 1)), [2], (some (2, (50, false)))⟩, ⟨(some 54),
  (.sbin .eql (.t 52) (.t 53)), [4, 5, 2], (some (2, (50, false)))⟩, ⟨(some 55), (.mov (.t 54)), [6, 4, 2], (some (2, (50, false)))⟩, ⟨(some 56), (.load true 2 (.t 2)), [7], (some (7, (55, true)))⟩,
  ⟨(some 57), (.load true 3 (.t 5)), [7], (some (7, (55, true)))⟩, ⟨(some 58), (.call 24 [(.t 56), (.t 57)]), [8, 9, 7, 7], (some (7, (55, true)))⟩, ⟨(some 59),
  (.pick (.t 55) (.t 58) (.k (.one (.d (.bool false))))), [7, 10, 2], (some (2, (50, false)))⟩, ⟨(some 60), (.pick (.t 50) (.k (.one (.d (.bool true)))) (.t 59)), [2, 11], none⟩, ⟨(some 61),
  (.mov (.t 60)), [12, 10], none⟩, ⟨(some 62), (.mov (.t 8)), [13], (some (13, (61, true)))⟩, ⟨(some 63), (.ibin .i64 .neq (.t 62) (.k (.one (.d (.int .i64 0))))), [14, 13], (some (13, (61, true)))⟩,
  ⟨(some 64), (.mov (.t 63)), [15, 13, 13], (some (13, (61, true)))⟩, ⟨(some 65), (.load true 2 (.t 7)), [16], (some (16, (64, false)))⟩, ⟨(some 66), (.call 20 [(.t 65)]), [17, 16, 16], (some (16,
  (64, false)))⟩, ⟨(some 67), (.mov (.t 1)), [16], (some (16, (64, false)))⟩, ⟨(some 68), (.sbin .eql (.t 66) (.t 67)), [18, 19, 16], (some (16, (64, false)))⟩, ⟨(some 69), (.mov (.t 68)), [20, 18,
  16], (some (16, (64, false)))⟩, ⟨(some 70), (.load true 2 (.t 7)), [21], (some (21, (69, true)))⟩, ⟨(some 71), (.call 16 [(.t 70)]), [22, 21, 21], (some (21, (69, true)))⟩, ⟨(some 72),
  (.pick (.t 69) (.t 71) (.k (.one (.d (.bool false))))), [21, 23, 16], (some (16, (64, false)))⟩, ⟨(some 73), (.pick (.t 64) (.k (.one (.d (.bool true)))) (.t 72)), [16, 24, 13], (some (13, (61,
  true)))⟩, ⟨(some 74), (.pick (.t 61) (.t 73) (.k (.one (.d (.bool false))))), [13, 25], none⟩, ⟨(some 75), (.mov (.t 74)), [26, 23], none⟩, ⟨(some 76), (.call 13 []), [27, 27], (some (27, (75,
  true)))⟩, ⟨(some 77), (.pick (.t 75) (.t 76) (.k (.one (.d (.bool false))))), [27, 28], none⟩, ⟨(some 4), (.mov (.t 77)), [29, 28, 0, 1, 2, 3, 4, 5, 6, 7, 8, 9, 10, 11, 12, 13, 14, 15, 16, 17, 18,
  19, 20, 21, 22, 23, 24, 25, 26, 27, 28, 29], none⟩]) .ret)
def j9_0 : SCode :=
  (.seq none (.region false [⟨(some 20), (.load true 2 (.t 2)), [], none⟩, ⟨(some 21), (.mov (.t 1)), [], none⟩, ⟨(some 22), (.call 34 [(.t 20), (.t 21)]), [0, 1], none⟩, ⟨(some 19), (.mov (.t 22)),
  [2], none⟩, ⟨(some 23), (.ext (.t 19) 0), [3], none⟩, ⟨(some 24), (.ext (.t 19) 1), [3], none⟩, ⟨(some 5), (.alloc [(.int .i64), (.int .i64), (.lst 3)] [(.d (.int .i64 0)), (.d (.int .i64 0)),
  (.nilL 3)]), [], none⟩, ⟨none, (.store 3 (.t 5) (.t 23)), [6, 4, 2, 0, 1, 2, 3, 4, 6], none⟩, ⟨(some 6), (.mov (.t 24)), [5, 7, 0, 1, 2, 3, 4, 5, 6, 7],
  none⟩]) (.seq none (.region false [⟨(some 26), (.mov (.t 1)), [], none⟩, ⟨(some 27), (.call 14 [(.t 26)]), [0], none⟩, ⟨(some 25), (.mov (.t 27)), [1], none⟩, ⟨(some 28), (.ext (.t 25) 0), [2],
  none⟩, ⟨(some 29), (.ext (.t 25) 1), [2], none⟩, ⟨(some 7), (.alloc [(.int .i64), (.lst 2)] [(.d (.int .i64 0)), (.nilL 2)]), [], none⟩, ⟨none, (.store 2 (.t 7) (.t 28)), [5, 3, 1, 0, 1, 2, 3, 5],
  none⟩, ⟨(some 8), (.mov (.t 29)), [4, 6, 0, 1, 2, 3, 4, 5, 6], none⟩]) (.seq (some [1, 2, 5, 6, 7, 8]) (.seq none (.region false [⟨(some 30), (.mov (.t 6)), [], none⟩, ⟨(some 31),
  (.ibin .i64 .neq (.t 30) (.k (.one (.d (.int .i64 0))))), [0], none⟩, ⟨(some 32), (.mov (.t 31)), [1], none⟩, ⟨(some 33), (.load true 3 (.t 5)), [2], (some (2, (32, true)))⟩, ⟨(some 34),
  (.build [(.d (.int .i64 0)), (.d (.int .i64 0)), (.nilL 3)] []), [2], (some (2, (32, true)))⟩, ⟨(some 35), (.call 38 [(.t 33), (.t 34)]), [3, 4, 2, 2], (some (2, (32, true)))⟩, ⟨(some 36),
  (.inot (.t 35)), [5, 2], (some (2, (32, true)))⟩, ⟨(some 37), (.pick (.t 32) (.t 36) (.k (.one (.d (.bool false))))), [2, 6], none⟩, ⟨(some 38), (.mov (.t 37)), [7, 5], none⟩, ⟨(some 39),
  (.mov (.t 8)), [8], (some (8, (38, false)))⟩, ⟨(some 40), (.ibin .i64 .neq (.t 39) (.k (.one (.d (.int .i64 0))))), [9, 8], (some (8, (38, false)))⟩, ⟨(some 41), (.mov (.t 40)), [10, 8, 8],
  (some (8, (38, false)))⟩, ⟨(some 42), (.load true 2 (.t 7)), [11], (some (11, (41, true)))⟩, ⟨(some 43), (.build [(.d (.int .i64 0)), (.nilL 2)] []), [11], (some (11, (41, true)))⟩, ⟨(some 44),
  (.call 22 [(.t 42), (.t 43)]), [12, 13, 11, 11], (some (11, (41, true)))⟩, ⟨(some 45), (.inot (.t 44)), [14, 11], (some (11, (41, true)))⟩, ⟨(some 46),
  (.pick (.t 41) (.t 45) (.k (.one (.d (.bool false))))), [11, 15, 8], (some (8, (38, false)))⟩, ⟨(some 47), (.pick (.t 38) (.k (.one (.d (.bool true)))) (.t 46)), [8, 16],
  none⟩]) (.cond (.t 47) (.seq none (.region false [⟨(some 4), (.mov (.k (.one (.d (.bool false))))), [], none⟩]) .ret) .skip)) j9_1)))
def sf9 : SFunc :=
  ⟨2, [(.tmp 4)], (.seq none (.region false [⟨(some 2), (.box [(.int .i64), (.lst 2)] (.t 0)), [], none⟩, ⟨(some 4), (.mov (.k (.one (.d (.bool false))))), [], none⟩]) (.seq (some [1,
  2]) (.seq none (.region false [⟨(some 9), (.load true 2 (.t 2)), [], none⟩, ⟨(some 10), (.lit 24 2 [(.t 9)]), [0], none⟩, ⟨(some 11), (.call 12 [(.k (.one (.d (.int .i64 2000)))), (.t 10)]), [1],
  none⟩, ⟨(some 12), (.inot (.t 11)), [2], none⟩, ⟨(some 13), (.mov (.t 12)), [3, 2], none⟩, ⟨(some 14), (.mov (.t 1)), [4], (some (4, (13, false)))⟩, ⟨(some 15), (.len true (.t 14)), [5, 4],
  (some (4, (13, false)))⟩, ⟨(some 16), (.ibin .i64 .gtr (.t 15) (.k (.one (.d (.int .i64 2000))))), [6, 4], (some (4, (13, false)))⟩, ⟨(some 17),
  (.pick (.t 13) (.k (.one (.d (.bool true)))) (.t 16)), [4, 7], none⟩]) (.cond (.t 17) (.seq none (.region false [⟨(some 18), (.call 13 []), [], none⟩, ⟨(some 4), (.mov (.t 18)), [0, 0, 0],
  none⟩]) .ret) .skip)) j9_0))⟩
theorem c9 : compFunc Tryd.prog [none, some [1, 2], none, none, none, none, some [1, 2, 5, 6, 7, 8], none, none, none] Tryd.f9 = some sf9 := by kernel_rfl
/-! sortilege/sortilegelaw03.ValueOne -/
def j10_1 : SCode :=
  (.seq none (.region false [⟨(some 36), (.mov (.t 7)), [], none⟩, ⟨(some 37), (.inot (.t 36)), [0], none⟩, ⟨(some 38), (.mov (.t 37)), [1], none⟩, ⟨(some 39), (.mov (.t 8)), [2], (some (2, (38,
  false)))⟩, ⟨(some 40), (.inot (.t 39)), [3, 2], (some (2, (38, false)))⟩, ⟨(some 41), (.pick (.t 38) (.k (.one (.d (.bool true)))) (.t 40)), [2, 4], none⟩, ⟨(some 42), (.mov (.t 41)), [5, 2], none⟩,
  ⟨(some 43), (.load true 3 (.t 5)), [6], (some (6, (42, false)))⟩, ⟨(some 44), (.call 39 [(.t 43)]), [7, 6, 6], (some (6, (42, false)))⟩, ⟨(some 45),
  (.pick (.t 42) (.k (.one (.d (.bool true)))) (.t 44)), [6, 8], none⟩, ⟨(some 46), (.mov (.t 45)), [9, 8], none⟩, ⟨(some 47), (.load true 2 (.t 3)), [10], (some (10, (46, false)))⟩, ⟨(some 48),
  (.load true 2 (.t 4)), [10], (some (10, (46, false)))⟩, ⟨(some 49), (.call 18 [(.t 47), (.t 48)]), [11, 12, 10, 10], (some (10, (46, false)))⟩, ⟨(some 50),
  (.pick (.t 46) (.k (.one (.d (.bool true)))) (.t 49)), [10, 13], none⟩, ⟨(some 51), (.mov (.t 50)), [14, 13], none⟩, ⟨(some 52), (.call 13 []), [15, 15], (some (15, (51, true)))⟩, ⟨(some 53),
  (.pick (.t 51) (.t 52) (.k (.one (.d (.bool false))))), [15, 16], none⟩, ⟨(some 6), (.mov (.t 53)), [17, 16, 0, 1, 2, 3, 4, 5, 6, 7, 8, 9, 10, 11, 12, 13, 14, 15, 16, 17], none⟩]) .ret)
def j10_0 : SCode :=
  (.seq none (.region true [⟨(some 21), (.load true 2 (.t 3)), [], none⟩, ⟨(some 22), (.load true 3 (.t 5)), [], none⟩, ⟨(some 23), (.call 24 [(.t 21), (.t 22)]), [0, 1], none⟩, ⟨(some 24),
  (.load true 2 (.t 4)), [], none⟩, ⟨(some 25), (.load true 3 (.t 5)), [], none⟩, ⟨(some 26), (.call 24 [(.t 24), (.t 25)]), [3, 4, 2], none⟩, ⟨(some 7), (.mov (.t 23)), [2, 5, 0, 1, 2], none⟩,
  ⟨(some 8), (.mov (.t 26)), [5, 6, 0, 1, 2, 3, 4, 5, 6], none⟩]) (.seq (some [3, 4, 5, 7, 8]) (.seq none (.region false [⟨(some 27), (.mov (.t 7)), [], none⟩, ⟨(some 28), (.mov (.t 27)), [0], none⟩,
  ⟨(some 29), (.mov (.t 8)), [1], (some (1, (28, false)))⟩, ⟨(some 30), (.pick (.t 28) (.k (.one (.d (.bool true)))) (.t 29)), [1, 2], none⟩, ⟨(some 31), (.mov (.t 30)), [3, 1], none⟩, ⟨(some 32),
  (.load true 3 (.t 5)), [4], (some (4, (31, true)))⟩, ⟨(some 33), (.call 26 [(.t 32)]), [5, 4, 4], (some (4, (31, true)))⟩, ⟨(some 34), (.inot (.t 33)), [6, 4], (some (4, (31, true)))⟩, ⟨(some 35),
  (.pick (.t 31) (.t 34) (.k (.one (.d (.bool false))))), [4, 7], none⟩]) (.cond (.t 35) (.seq none (.region false [⟨(some 6), (.mov (.k (.one (.d (.bool false))))), [], none⟩]) .ret) .skip)) j10_1))
def sf10 : SFunc :=
  ⟨3, [(.tmp 6)], (.seq none (.region false [⟨(some 3), (.box [(.int .i64), (.lst 2)] (.t 0)), [], none⟩, ⟨(some 4), (.box [(.int .i64), (.lst 2)] (.t 1)), [], none⟩, ⟨(some 5), (.box [(.int .i64),
  (.int .i64), (.lst 3)] (.t 2)), [], none⟩, ⟨(some 6), (.mov (.k (.one (.d (.bool false))))), [], none⟩]) (.seq (some [3, 4, 5]) (.seq none (.region false [⟨(some 9), (.load true 2 (.t 3)), [],
  none⟩, ⟨(some 10), (.load true 2 (.t 4)), [], none⟩, ⟨(some 11), (.lit 24 2 [(.t 9), (.t 10)]), [0, 1], none⟩, ⟨(some 12), (.call 12 [(.k (.one (.d (.int .i64 2000)))), (.t 11)]), [2], none⟩,
  ⟨(some 13), (.inot (.t 12)), [3], none⟩, ⟨(some 14), (.mov (.t 13)), [4, 3], none⟩, ⟨(some 15), (.load true 3 (.t 5)), [5], (some (5, (14, false)))⟩, ⟨(some 16), (.lit 36 3 [(.t 15)]), [6, 5],
  (some (5, (14, false)))⟩, ⟨(some 17), (.call 23 [(.k (.one (.d (.int .i64 2000)))), (.t 16)]), [7, 5, 5], (some (5, (14, false)))⟩, ⟨(some 18), (.inot (.t 17)), [8, 5], (some (5, (14, false)))⟩,
  ⟨(some 19), (.pick (.t 14) (.k (.one (.d (.bool true)))) (.t 18)), [5, 9], none⟩]) (.cond (.t 19) (.seq none (.region false [⟨(some 20), (.call 13 []), [], none⟩, ⟨(some 6), (.mov (.t 20)), [0, 0,
  0], none⟩]) .ret) .skip)) j10_0))⟩
theorem c10 : compFunc Tryd.prog [none, some [3, 4, 5], none, none, none, some [3, 4, 5, 7, 8], none, none, none] Tryd.f10 = some sf10 := by kernel_rfl
/-! sortilege/sortilegelaw03.ValueBegins -/
def j11_1 : SCode :=
  (.seq none (.region true [⟨(some 43), (.lit 36 3 []), [], none⟩, ⟨(some 44), (.mov (.t 0)), [], none⟩, ⟨(some 45), (.app 36 3 40 (.t 43) (.t 44)), [0, 1], none⟩, ⟨(some 46), (.load true 3 (.t 7)), [],
  none⟩, ⟨(some 47), (.lit 36 3 [(.t 46)]), [3], none⟩, ⟨(some 48), (.app 36 3 40 (.t 45) (.t 47)), [2, 4, 2], none⟩, ⟨(some 49), (.call 40 [(.t 48)]), [5, 5], none⟩, ⟨(some 50), (.lit 36 3 []), [],
  none⟩, ⟨(some 51), (.mov (.t 0)), [], none⟩, ⟨(some 52), (.app 36 3 40 (.t 50) (.t 51)), [7, 8, 6], none⟩, ⟨(some 53), (.load true 3 (.t 8)), [], none⟩, ⟨(some 54), (.lit 36 3 [(.t 53)]), [10],
  none⟩, ⟨(some 55), (.app 36 3 40 (.t 52) (.t 54)), [9, 11, 9], none⟩, ⟨(some 56), (.call 40 [(.t 55)]), [12, 12], none⟩, ⟨(some 57), (.call 30 [(.t 49), (.t 56)]), [6, 13, 13], none⟩, ⟨(some 58),
  (.load true 3 (.t 7)), [], none⟩, ⟨(some 59), (.load true 3 (.t 8)), [], none⟩, ⟨(some 60), (.call 30 [(.t 58), (.t 59)]), [15, 16, 14], none⟩, ⟨(some 61), (.ibin .i64 .eql (.t 57) (.t 60)), [14,
  17], none⟩, ⟨(some 62), (.mov (.t 61)), [18, 17], none⟩, ⟨(some 63), (.call 13 []), [19, 19], (some (19, (62, true)))⟩, ⟨(some 64), (.pick (.t 62) (.t 63) (.k (.one (.d (.bool false))))), [19, 20],
  none⟩, ⟨(some 6), (.mov (.t 64)), [21, 20, 0, 1, 2, 3, 4, 5, 6, 7, 8, 9, 10, 11, 12, 13, 14, 15, 16, 17, 18, 19, 20, 21], none⟩]) .ret)
def j11_0 : SCode :=
  (.seq none (.region false [⟨(some 30), (.mov (.t 2)), [], none⟩, ⟨(some 31), (.conv .u8 .i64 (.t 30)), [0], none⟩, ⟨(some 32), (.mov (.t 0)), [], none⟩, ⟨(some 33), (.len false (.t 32)), [2], none⟩,
  ⟨(some 34), (.ibin .i64 .rem (.t 31) (.t 33)), [1, 3], none⟩, ⟨(some 9), (.mov (.t 34)), [4, 0, 1, 2, 3, 4], none⟩]) (.seq (some [0, 7, 8]) (.seq none (.region false [⟨(some 35), (.mov (.t 0)), [],
  none⟩, ⟨(some 36), (.mov (.t 9)), [], none⟩, ⟨(some 37), (.subl 3 (.t 35) none (some (.t 36))), [0, 1], none⟩, ⟨(some 38), (.call 40 [(.t 37)]), [2], none⟩, ⟨(some 39), (.mov (.t 0)), [], none⟩,
  ⟨(some 40), (.call 40 [(.t 39)]), [4, 3], none⟩, ⟨(some 41), (.call 30 [(.t 38), (.t 40)]), [3, 5, 5], none⟩, ⟨(some 42), (.ibin .i64 .neq (.t 41) (.k (.one (.d (.int .i64 (-1)))))), [6],
  none⟩]) (.cond (.t 42) (.seq none (.region false [⟨(some 6), (.mov (.k (.one (.d (.bool false))))), [], none⟩]) .ret) .skip)) j11_1))
def sf11 : SFunc :=
  ⟨3, [(.tmp 6)], (.seq none (.region false [⟨(some 4), (.box [(.int .i64), (.int .i64), (.lst 3), (.int .i64), (.int .i64), (.lst 3)] (.t 1)), [], none⟩, ⟨(some 6),
  (.mov (.k (.one (.d (.bool false))))), [], none⟩]) (.seq none (.region true [⟨(some 10), (.aaddr 2 3 (.t 4) (.k (.one (.d (.int .i64 0))))), [], none⟩, ⟨(some 11), (.load true 3 (.t 10)), [0],
  none⟩, ⟨(some 12), (.aaddr 2 3 (.t 4) (.k (.one (.d (.int .i64 1))))), [], none⟩, ⟨(some 13), (.load true 3 (.t 12)), [2], none⟩, ⟨(some 7), (.alloc [(.int .i64), (.int .i64),
  (.lst 3)] [(.d (.int .i64 0)), (.d (.int .i64 0)), (.nilL 3)]), [], none⟩, ⟨(some 8), (.alloc [(.int .i64), (.int .i64), (.lst 3)] [(.d (.int .i64 0)), (.d (.int .i64 0)), (.nilL 3)]), [], none⟩,
  ⟨none, (.store 3 (.t 7) (.t 11)), [4, 1, 0, 1, 4, 5], none⟩, ⟨none, (.store 3 (.t 8) (.t 13)), [5, 3, 6, 0, 1, 2, 3, 4, 5, 6], none⟩]) (.seq (some [0, 2, 7,
  8]) (.seq none (.region false [⟨(some 14), (.mov (.t 0)), [], none⟩, ⟨(some 15), (.call 23 [(.k (.one (.d (.int .i64 1000)))), (.t 14)]), [0], none⟩, ⟨(some 16), (.inot (.t 15)), [1], none⟩,
  ⟨(some 17), (.mov (.t 16)), [2, 1], none⟩, ⟨(some 18), (.load true 3 (.t 7)), [3], (some (3, (17, false)))⟩, ⟨(some 19), (.load true 3 (.t 8)), [3], (some (3, (17, false)))⟩, ⟨(some 20),
  (.lit 36 3 [(.t 18), (.t 19)]), [4, 5, 3], (some (3, (17, false)))⟩, ⟨(some 21), (.call 23 [(.k (.one (.d (.int .i64 1000)))), (.t 20)]), [6, 3, 3], (some (3, (17, false)))⟩, ⟨(some 22),
  (.inot (.t 21)), [7, 3], (some (3, (17, false)))⟩, ⟨(some 23), (.pick (.t 17) (.k (.one (.d (.bool true)))) (.t 22)), [3, 8], none⟩, ⟨(some 24), (.mov (.t 23)), [9, 7], none⟩, ⟨(some 25),
  (.mov (.t 0)), [10], (some (10, (24, false)))⟩, ⟨(some 26), (.len false (.t 25)), [11, 10], (some (10, (24, false)))⟩, ⟨(some 27), (.ibin .i64 .eql (.t 26) (.k (.one (.d (.int .i64 0))))), [12, 10],
  (some (10, (24, false)))⟩, ⟨(some 28), (.pick (.t 24) (.k (.one (.d (.bool true)))) (.t 27)), [10, 13], none⟩]) (.cond (.t 28) (.seq none (.region false [⟨(some 29), (.call 13 []), [], none⟩,
  ⟨(some 6), (.mov (.t 29)), [0, 0, 0], none⟩]) .ret) .skip)) j11_0)))⟩
theorem c11 : compFunc Tryd.prog [none, none, some [0, 2, 7, 8], none, none, none, some [0, 7, 8], none, none, none] Tryd.f11 = some sf11 := by kernel_rfl
/-! sortilege/sortilegelaw03.FewTypes -/
def j12_1 : SCode :=
  (.region false [⟨(some 11), (.mov (.t 6)), [], none⟩, ⟨(some 12), (.ibin .i64 .add (.t 11) (.k (.one (.d (.int .i64 1))))), [0], none⟩, ⟨(some 6), (.mov (.t 12)), [1, 0, 1], none⟩])
def j12_0 : SCode :=
  (.seq (some [0, 1, 5, 6]) (.block 1 (.region false [⟨(some 13), (.mov (.t 1)), [], none⟩, ⟨(some 14), (.mov (.t 6)), [], none⟩, ⟨(some 15), (.iaddr 2 (.t 13) (.t 14)), [0, 1], none⟩, ⟨(some 16),
  (.load true 2 (.t 15)), [2], none⟩, ⟨(some 17), (.mov (.t 5)), [], none⟩, ⟨(some 18), (.mov (.t 0)), [], none⟩, ⟨(some 19), (.call 41 [(.t 16), (.t 17), (.t 18)]), [3, 4, 5], none⟩, ⟨(some 5),
  (.mov (.t 19)), [6, 6, 0, 1, 2, 3, 4, 5, 6], none⟩])) j12_1)
def lb12_0 : SCode :=
  (.seq (some [0, 1, 5, 6]) (.seq none (.region false [⟨(some 7), (.mov (.t 6)), [], none⟩, ⟨(some 8), (.mov (.t 1)), [], none⟩, ⟨(some 9), (.len false (.t 8)), [1], none⟩, ⟨(some 10),
  (.ibin .i64 .lss (.t 7) (.t 9)), [0, 2], none⟩]) (.cond (.t 10) .skip (.exit 0))) j12_0)
def j12_2 : SCode :=
  (.seq none (.region false [⟨(some 20), (.mov (.t 5)), [], none⟩, ⟨(some 21), (.mov (.t 0)), [], none⟩, ⟨(some 22), (.ibin .i64 .leq (.t 20) (.t 21)), [0, 1], none⟩, ⟨(some 4), (.mov (.t 22)), [2, 0,
  1, 2], none⟩]) .ret)
def sf12 : SFunc :=
  ⟨2, [(.tmp 4)], (.seq none (.region false [⟨(some 4), (.mov (.k (.one (.d (.bool false))))), [], none⟩]) (.seq none (.region false [⟨(some 5), (.mov (.k (.one (.d (.int .i64 0))))), [],
  none⟩]) (.seq (some [0, 5]) (.seq none (.region false [⟨(some 6), (.mov (.k (.one (.d (.int .i64 0))))), [], none⟩]) (.block 0 (.loop [0, 1, 5, 6] lb12_0))) j12_2)))⟩
theorem c12 : compFunc Tryd.prog [none, none, some [0, 5], none, some [0, 1, 5, 6], some [0, 1, 5, 6], none, some [0, 1, 5, 6], none] Tryd.f12 = some sf12 := by kernel_rfl
/-! sortilege/sortilegelaw03.awake -/
def sf13 : SFunc :=
  ⟨0, [(.tmp 0)], (.seq none (.region false [⟨(some 0), (.mov (.k (.one (.d (.bool false))))), [], none⟩]) (.seq none (.region false [⟨(some 8), (.build [(.d (.int .i64 0)), (.nilL 2)] [(0, (1,
  (.k (.one (.d (.int .i64 2))))))]), [], none⟩, ⟨(some 9), (.lit 24 2 [(.t 8)]), [0], none⟩, ⟨(some 10), (.build [(.d (.int .i64 0)), (.nilL 2)] [(0, (1, (.k (.one (.d (.int .i64 4)))))), (1, (1,
  (.t 9)))]), [1], none⟩, ⟨(some 1), (.alloc [(.int .i64), (.lst 2)] [(.d (.int .i64 0)), (.nilL 2)]), [], none⟩, ⟨none, (.store 2 (.t 1) (.t 10)), [3, 2, 0, 1, 2, 3],
  none⟩]) (.seq none (.region false [⟨(some 12), (.load true 2 (.t 1)), [], none⟩, ⟨(some 13), (.call 34 [(.t 12), (.k (.one (.d (.str ⟨#[91, 49, 44, 50, 93]⟩))))]), [0], none⟩, ⟨(some 11),
  (.mov (.t 13)), [1], none⟩, ⟨(some 14), (.ext (.t 11) 0), [2], none⟩, ⟨(some 15), (.ext (.t 11) 1), [2], none⟩, ⟨(some 2), (.alloc [(.int .i64), (.int .i64), (.lst 3)] [(.d (.int .i64 0)),
  (.d (.int .i64 0)), (.nilL 3)]), [], none⟩, ⟨none, (.store 3 (.t 2) (.t 14)), [5, 3, 1, 0, 1, 2, 3, 5], none⟩, ⟨(some 3), (.mov (.t 15)), [4, 6, 0, 1, 2, 3, 4, 5, 6],
  none⟩]) (.seq none (.region false [⟨(some 17), (.load true 2 (.t 1)), [], none⟩, ⟨(some 18), (.call 34 [(.t 17), (.k (.one (.d (.str ⟨#[91, 49, 44, 32, 50, 93]⟩))))]), [0], none⟩, ⟨(some 16),
  (.mov (.t 18)), [1], none⟩, ⟨(some 19), (.ext (.t 16) 0), [2], none⟩, ⟨(some 20), (.ext (.t 16) 1), [2], none⟩, ⟨(some 4), (.alloc [(.int .i64), (.int .i64), (.lst 3)] [(.d (.int .i64 0)),
  (.d (.int .i64 0)), (.nilL 3)]), [], none⟩, ⟨none, (.store 3 (.t 4) (.t 19)), [5, 3, 1, 0, 1, 2, 3, 5], none⟩, ⟨(some 5), (.mov (.t 20)), [4, 6, 0, 1, 2, 3, 4, 5, 6],
  none⟩]) (.seq none (.region false [⟨(some 22), (.call 14 [(.k (.one (.d (.str ⟨#[91, 105, 110, 116, 93]⟩))))]), [], none⟩, ⟨(some 21), (.mov (.t 22)), [0], none⟩, ⟨(some 23), (.ext (.t 21) 0), [1],
  none⟩, ⟨(some 24), (.ext (.t 21) 1), [1], none⟩, ⟨(some 6), (.alloc [(.int .i64), (.lst 2)] [(.d (.int .i64 0)), (.nilL 2)]), [], none⟩, ⟨none, (.store 2 (.t 6) (.t 23)), [4, 2, 0, 0, 1, 2, 4],
  none⟩, ⟨(some 7), (.mov (.t 24)), [3, 5, 0, 1, 2, 3, 4, 5], none⟩]) (.seq none (.region true [⟨(some 25), (.call 42 [(.k (.one (.d (.int .i64 1))))]), [], none⟩, ⟨(some 26),
  (.call 42 [(.k (.one (.d (.int .i64 2))))]), [0], none⟩, ⟨(some 27), (.lit 36 3 [(.t 25), (.t 26)]), [0, 1], none⟩, ⟨(some 28), (.call 40 [(.t 27)]), [2, 1], none⟩, ⟨(some 29), (.call 36 [(.t 28)]),
  [3, 3], none⟩, ⟨(some 30), (.sbin .eql (.t 29) (.k (.one (.d (.str ⟨#[91, 49, 44, 32, 50, 93]⟩))))), [4], none⟩, ⟨(some 31), (.mov (.t 30)), [5, 4], none⟩, ⟨(some 32),
  (.call 42 [(.k (.one (.d (.int .i64 1))))]), [6, 6], (some (6, (31, true)))⟩, ⟨(some 33), (.lit 36 3 [(.t 32)]), [7, 6], (some (6, (31, true)))⟩, ⟨(some 34), (.call 40 [(.t 33)]), [8, 7, 6],
  (some (6, (31, true)))⟩, ⟨(some 35), (.call 42 [(.k (.one (.d (.int .i64 1))))]), [9, 6], (some (6, (31, true)))⟩, ⟨(some 36), (.call 42 [(.k (.one (.d (.int .i64 0))))]), [10, 6], (some (6, (31,
  true)))⟩, ⟨(some 37), (.lit 36 3 [(.t 35), (.t 36)]), [10, 11, 6], (some (6, (31, true)))⟩, ⟨(some 38), (.call 40 [(.t 37)]), [12, 11, 6], (some (6, (31, true)))⟩, ⟨(some 39), (.call 30 [(.t 34),
  (.t 38)]), [9, 13, 13, 6], (some (6, (31, true)))⟩, ⟨(some 40), (.ibin .i64 .eql (.t 39) (.k (.one (.d (.int .i64 (-1)))))), [14, 6], (some (6, (31, true)))⟩, ⟨(some 41),
  (.pick (.t 31) (.t 40) (.k (.one (.d (.bool false))))), [6, 15], none⟩, ⟨(some 42), (.mov (.t 41)), [16, 14], none⟩, ⟨(some 43), (.mov (.t 3)), [17], (some (17, (42, true)))⟩, ⟨(some 44),
  (.ibin .i64 .eql (.t 43) (.k (.one (.d (.int .i64 33))))), [18, 17], (some (17, (42, true)))⟩, ⟨(some 45), (.pick (.t 42) (.t 44) (.k (.one (.d (.bool false))))), [17, 19], none⟩, ⟨(some 46),
  (.mov (.t 45)), [20, 17], none⟩, ⟨(some 47), (.mov (.t 5)), [21], (some (21, (46, true)))⟩, ⟨(some 48), (.ibin .i64 .eql (.t 47) (.k (.one (.d (.int .i64 0))))), [22, 21], (some (21, (46, true)))⟩,
  ⟨(some 49), (.pick (.t 46) (.t 48) (.k (.one (.d (.bool false))))), [21, 23], none⟩, ⟨(some 50), (.mov (.t 49)), [24, 21], none⟩, ⟨(some 51), (.load true 3 (.t 4)), [25], (some (25, (50, true)))⟩,
  ⟨(some 52), (.call 42 [(.k (.one (.d (.int .i64 1))))]), [25, 25], (some (25, (50, true)))⟩, ⟨(some 53), (.call 42 [(.k (.one (.d (.int .i64 2))))]), [27, 25], (some (25, (50, true)))⟩, ⟨(some 54),
  (.lit 36 3 [(.t 52), (.t 53)]), [27, 28, 25], (some (25, (50, true)))⟩, ⟨(some 55), (.call 40 [(.t 54)]), [29, 28, 25], (some (25, (50, true)))⟩, ⟨(some 56), (.call 32 [(.t 51), (.t 55)]), [26, 30,
  30, 25], (some (25, (50, true)))⟩, ⟨(some 57), (.pick (.t 50) (.t 56) (.k (.one (.d (.bool false))))), [25, 31], none⟩, ⟨(some 58), (.mov (.t 57)), [32, 31], none⟩, ⟨(some 59), (.mov (.t 7)), [33],
  (some (33, (58, true)))⟩, ⟨(some 60), (.ibin .i64 .eql (.t 59) (.k (.one (.d (.int .i64 0))))), [34, 33], (some (33, (58, true)))⟩, ⟨(some 61),
  (.pick (.t 58) (.t 60) (.k (.one (.d (.bool false))))), [33, 35], none⟩, ⟨(some 62), (.mov (.t 61)), [36, 33], none⟩, ⟨(some 63), (.load true 2 (.t 1)), [37], (some (37, (62, true)))⟩, ⟨(some 64),
  (.load true 2 (.t 6)), [37], (some (37, (62, true)))⟩, ⟨(some 65), (.call 18 [(.t 63), (.t 64)]), [38, 39, 37, 37], (some (37, (62, true)))⟩, ⟨(some 66),
  (.pick (.t 62) (.t 65) (.k (.one (.d (.bool false))))), [37, 40], none⟩, ⟨(some 67), (.mov (.t 66)), [41, 40], none⟩, ⟨(some 68), (.load true 2 (.t 1)), [42], (some (42, (67, true)))⟩, ⟨(some 69),
  (.call 20 [(.t 68)]), [43, 42, 42], (some (42, (67, true)))⟩, ⟨(some 70), (.sbin .eql (.t 69) (.k (.one (.d (.str ⟨#[91, 105, 110, 116, 93]⟩))))), [44, 42], (some (42, (67, true)))⟩, ⟨(some 71),
  (.pick (.t 67) (.t 70) (.k (.one (.d (.bool false))))), [42, 45], none⟩, ⟨(some 72), (.mov (.t 71)), [46, 44], none⟩, ⟨(some 73), (.load true 2 (.t 1)), [47], (some (47, (72, true)))⟩, ⟨(some 74),
  (.call 16 [(.t 73)]), [48, 47, 47], (some (47, (72, true)))⟩, ⟨(some 75), (.pick (.t 72) (.t 74) (.k (.one (.d (.bool false))))), [47, 49], none⟩, ⟨(some 76), (.mov (.t 75)), [50, 49], none⟩,
  ⟨(some 77), (.load true 2 (.t 1)), [51], (some (51, (76, true)))⟩, ⟨(some 78), (.load true 3 (.t 4)), [51], (some (51, (76, true)))⟩, ⟨(some 79), (.call 24 [(.t 77), (.t 78)]), [52, 53, 51, 51],
  (some (51, (76, true)))⟩, ⟨(some 80), (.pick (.t 76) (.t 79) (.k (.one (.d (.bool false))))), [51, 54], none⟩, ⟨(some 81), (.mov (.t 80)), [55, 54], none⟩, ⟨(some 82), (.load true 3 (.t 4)), [56],
  (some (56, (81, true)))⟩, ⟨(some 83), (.call 26 [(.t 82)]), [57, 56, 56], (some (56, (81, true)))⟩, ⟨(some 84), (.pick (.t 81) (.t 83) (.k (.one (.d (.bool false))))), [56, 58], none⟩, ⟨(some 85),
  (.mov (.t 84)), [59, 58], none⟩, ⟨(some 86), (.load true 3 (.t 4)), [60], (some (60, (85, true)))⟩, ⟨(some 87), (.call 28 [(.t 86)]), [61, 60, 60], (some (60, (85, true)))⟩, ⟨(some 88),
  (.ibin .i64 .eql (.t 87) (.k (.one (.d (.int .i64 3))))), [62, 60], (some (60, (85, true)))⟩, ⟨(some 89), (.pick (.t 85) (.t 88) (.k (.one (.d (.bool false))))), [60, 63], none⟩, ⟨(some 0),
  (.mov (.t 89)), [64, 62, 0, 1, 2, 3, 4, 5, 6, 7, 8, 9, 10, 11, 12, 13, 14, 15, 16, 17, 18, 19, 20, 21, 22, 23, 24, 25, 26, 27, 28, 29, 30, 31, 32, 33, 34, 35, 36, 37, 38, 39, 40, 41, 42, 43, 44, 45,
  46, 47, 48, 49, 50, 51, 52, 53, 54, 55, 56, 57, 58, 59, 60, 61, 62, 63, 64], none⟩]) .ret))))))⟩
theorem c13 : compFunc Tryd.prog [none, none, none, none, none, none] Tryd.f13 = some sf13 := by kernel_rfl
/-! sortilege/value.ParseType -/
def j14_0 : SCode :=
  (.seq none (.region false [⟨(some 25), (.load true 2 (.t 4)), [], none⟩, ⟨none, (.store 2 (.t 2) (.t 25)), [0, 0], none⟩, ⟨(some 3), (.mov (.k (.one (.d (.int .i64 0))))), [1, 0, 1], none⟩]) .ret)
def sf14 : SFunc :=
  ⟨1, [(.cell true 2 2), (.tmp 3)], (.seq none (.region false [⟨(some 2), (.alloc [(.int .i64), (.lst 2)] [(.d (.int .i64 0)), (.nilL 2)]), [], none⟩, ⟨(some 3), (.mov (.k (.one (.d (.int .i64 0))))),
  [], none⟩]) (.seq none (.region false [⟨(some 8), (.mov (.t 0)), [], none⟩, ⟨(some 9), (.call 43 [(.t 8), (.k (.one (.d (.int .i64 40))))]), [0], none⟩, ⟨(some 7), (.mov (.t 9)), [1], none⟩,
  ⟨(some 10), (.ext (.t 7) 0), [2], none⟩, ⟨(some 11), (.ext (.t 7) 1), [2], none⟩, ⟨(some 12), (.ext (.t 7) 2), [2], none⟩, ⟨(some 4), (.alloc [(.int .i64), (.lst 2)] [(.d (.int .i64 0)),
  (.nilL 2)]), [], none⟩, ⟨none, (.store 2 (.t 4) (.t 10)), [6, 3, 1, 0, 1, 2, 3, 6], none⟩, ⟨(some 5), (.mov (.t 11)), [4, 7, 0, 1, 2, 3, 4, 6, 7], none⟩, ⟨(some 6), (.mov (.t 12)), [5, 8, 0, 1, 2,
  3, 4, 5, 6, 7, 8], none⟩]) (.seq (some [2, 4]) (.seq none (.region false [⟨(some 13), (.mov (.t 6)), [], none⟩, ⟨(some 14), (.inot (.t 13)), [0], none⟩, ⟨(some 15), (.mov (.t 14)), [1], none⟩,
  ⟨(some 16), (.mov (.t 5)), [2], (some (2, (15, false)))⟩, ⟨(some 17), (.sbin .neq (.t 16) (.k (.one (.d (.str ⟨#[]⟩))))), [3, 2], (some (2, (15, false)))⟩, ⟨(some 18),
  (.pick (.t 15) (.k (.one (.d (.bool true)))) (.t 17)), [2, 4], none⟩, ⟨(some 19), (.mov (.t 18)), [5, 2], none⟩, ⟨(some 20), (.load true 2 (.t 4)), [6], (some (6, (19, false)))⟩, ⟨(some 21),
  (.call 16 [(.t 20)]), [7, 6, 6], (some (6, (19, false)))⟩, ⟨(some 22), (.inot (.t 21)), [8, 6], (some (6, (19, false)))⟩, ⟨(some 23), (.pick (.t 19) (.k (.one (.d (.bool true)))) (.t 22)), [6, 9],
  none⟩]) (.cond (.t 23) (.seq none (.region false [⟨(some 24), (.build [(.d (.int .i64 0)), (.nilL 2)] []), [], none⟩, ⟨none, (.store 2 (.t 2) (.t 24)), [0, 0], none⟩, ⟨(some 3),
  (.mov (.k (.one (.d (.int .i64 33))))), [1, 0, 1], none⟩]) .ret) .skip)) j14_0)))⟩
theorem c14 : compFunc Tryd.prog [none, none, some [2, 4], none, none, none] Tryd.f14 = some sf14 := by kernel_rfl
/-! sortilege/sortilegeref03.ParseType -/
def j15_0 : SCode :=
  (.seq none (.region false [⟨(some 22), (.load true 2 (.t 4)), [], none⟩, ⟨none, (.store 2 (.t 2) (.t 22)), [0, 0], none⟩, ⟨(some 3), (.mov (.k (.one (.d (.int .i64 0))))), [1, 0, 1], none⟩]) .ret)
def sf15 : SFunc :=
  ⟨1, [(.cell true 2 2), (.tmp 3)], (.seq none (.region false [⟨(some 2), (.alloc [(.int .i64), (.lst 2)] [(.d (.int .i64 0)), (.nilL 2)]), [], none⟩, ⟨(some 3), (.mov (.k (.one (.d (.int .i64 0))))),
  [], none⟩]) (.seq none (.region false [⟨(some 8), (.mov (.t 0)), [], none⟩, ⟨(some 9), (.call 44 [(.t 8), (.k (.one (.d (.int .i64 0)))), (.k (.one (.d (.int .i64 1))))]), [0], none⟩, ⟨(some 7),
  (.mov (.t 9)), [1], none⟩, ⟨(some 10), (.ext (.t 7) 0), [2], none⟩, ⟨(some 11), (.ext (.t 7) 1), [2], none⟩, ⟨(some 12), (.ext (.t 7) 2), [2], none⟩, ⟨(some 4), (.alloc [(.int .i64),
  (.lst 2)] [(.d (.int .i64 0)), (.nilL 2)]), [], none⟩, ⟨none, (.store 2 (.t 4) (.t 10)), [6, 3, 1, 0, 1, 2, 3, 6], none⟩, ⟨(some 5), (.mov (.t 11)), [4, 7, 0, 1, 2, 3, 4, 6, 7], none⟩, ⟨(some 6),
  (.mov (.t 12)), [5, 8, 0, 1, 2, 3, 4, 5, 6, 7, 8], none⟩]) (.seq (some [2, 4]) (.seq none (.region false [⟨(some 13), (.mov (.t 6)), [], none⟩, ⟨(some 14), (.inot (.t 13)), [0], none⟩, ⟨(some 15),
  (.mov (.t 14)), [1], none⟩, ⟨(some 16), (.mov (.t 5)), [2], (some (2, (15, false)))⟩, ⟨(some 17), (.mov (.t 0)), [2], (some (2, (15, false)))⟩, ⟨(some 18), (.len true (.t 17)), [4, 2], (some (2,
  (15, false)))⟩, ⟨(some 19), (.ibin .i64 .neq (.t 16) (.t 18)), [3, 5, 2], (some (2, (15, false)))⟩, ⟨(some 20), (.pick (.t 15) (.k (.one (.d (.bool true)))) (.t 19)), [2, 6],
  none⟩]) (.cond (.t 20) (.seq none (.region false [⟨(some 21), (.build [(.d (.int .i64 0)), (.nilL 2)] []), [], none⟩, ⟨none, (.store 2 (.t 2) (.t 21)), [0, 0], none⟩, ⟨(some 3),
  (.mov (.k (.one (.d (.int .i64 33))))), [1, 0, 1], none⟩]) .ret) .skip)) j15_0)))⟩
theorem c15 : compFunc Tryd.prog [none, none, some [2, 4], none, none, none] Tryd.f15 = some sf15 := by kernel_rfl
/-! sortilege/value.TypeRight -/
def sf16 : SFunc :=
  ⟨1, [(.tmp 2)], (.seq none (.region false [⟨(some 1), (.box [(.int .i64), (.lst 2)] (.t 0)), [], none⟩, ⟨(some 2), (.mov (.k (.one (.d (.bool false))))), [],
  none⟩]) (.seq none (.region false [⟨(some 3), (.load true 2 (.t 1)), [], none⟩, ⟨(some 4), (.call 45 [(.t 3), (.k (.one (.d (.int .i64 40))))]), [0], none⟩, ⟨(some 2), (.mov (.t 4)), [1, 1, 0, 1],
  none⟩]) .ret))⟩
theorem c16 : compFunc Tryd.prog [none, none] Tryd.f16 = some sf16 := by kernel_rfl
/-! sortilege/sortilegeref03.TypeRight -/
def sf17 : SFunc :=
  ⟨1, [(.tmp 2)], (.seq none (.region false [⟨(some 1), (.box [(.int .i64), (.lst 2)] (.t 0)), [], none⟩, ⟨(some 2), (.mov (.k (.one (.d (.bool false))))), [],
  none⟩]) (.seq none (.region false [⟨(some 3), (.load true 2 (.t 1)), [], none⟩, ⟨(some 4), (.call 46 [(.t 3), (.k (.one (.d (.int .i64 1))))]), [0], none⟩, ⟨(some 2), (.mov (.t 4)), [1, 1, 0, 1],
  none⟩]) .ret))⟩
theorem c17 : compFunc Tryd.prog [none, none] Tryd.f17 = some sf17 := by kernel_rfl
/-! sortilege/value.TypeSame -/
def sf18 : SFunc :=
  ⟨2, [(.tmp 4)], (.seq none (.region false [⟨(some 2), (.box [(.int .i64), (.lst 2)] (.t 0)), [], none⟩, ⟨(some 3), (.box [(.int .i64), (.lst 2)] (.t 1)), [], none⟩, ⟨(some 4),
  (.mov (.k (.one (.d (.bool false))))), [], none⟩]) (.seq none (.region false [⟨(some 5), (.faddr 0 (.t 2)), [], none⟩, ⟨(some 6), (.load false 1 (.t 5)), [0], none⟩, ⟨(some 7), (.faddr 0 (.t 3)),
  [], none⟩, ⟨(some 8), (.load false 1 (.t 7)), [2], none⟩, ⟨(some 9), (.ibin .i64 .eql (.t 6) (.t 8)), [1, 3], none⟩, ⟨(some 10), (.mov (.t 9)), [4], none⟩, ⟨(some 11), (.faddr 1 (.t 2)), [5],
  (some (5, (10, true)))⟩, ⟨(some 12), (.load false 1 (.t 11)), [6, 5], (some (5, (10, true)))⟩, ⟨(some 13), (.faddr 1 (.t 3)), [5], (some (5, (10, true)))⟩, ⟨(some 14), (.load false 1 (.t 13)), [8,
  5], (some (5, (10, true)))⟩, ⟨(some 15), (.call 47 [(.t 12), (.t 14), (.k (.one (.fn 18 [])))]), [7, 9, 5, 5], (some (5, (10, true)))⟩, ⟨(some 16),
  (.pick (.t 10) (.t 15) (.k (.one (.d (.bool false))))), [5, 10], none⟩, ⟨(some 4), (.mov (.t 16)), [11, 10, 0, 1, 2, 3, 4, 5, 6, 7, 8, 9, 10, 11], none⟩]) .ret))⟩
theorem c18 : compFunc Tryd.prog [none, none] Tryd.f18 = some sf18 := by kernel_rfl
/-! sortilege/sortilegeref03.TypeSame -/
def j19_2 : SCode :=
  (.region false [⟨(some 25), (.mov (.t 5)), [], none⟩, ⟨(some 26), (.ibin .i64 .add (.t 25) (.k (.one (.d (.int .i64 1))))), [0], none⟩, ⟨(some 5), (.mov (.t 26)), [1, 0, 1], none⟩])
def j19_1 : SCode :=
  (.seq (some [2, 3, 5]) (.block 1 (.seq none (.region true [⟨(some 27), (.faddr 1 (.t 2)), [], none⟩, ⟨(some 28), (.load false 1 (.t 27)), [0], none⟩, ⟨(some 29), (.mov (.t 5)), [], none⟩, ⟨(some 30),
  (.iaddr 2 (.t 28) (.t 29)), [1, 2], none⟩, ⟨(some 31), (.load true 2 (.t 30)), [3], none⟩, ⟨(some 32), (.faddr 1 (.t 3)), [], none⟩, ⟨(some 33), (.load false 1 (.t 32)), [5], none⟩, ⟨(some 34),
  (.mov (.t 5)), [], none⟩, ⟨(some 35), (.iaddr 2 (.t 33) (.t 34)), [6, 7], none⟩, ⟨(some 36), (.load true 2 (.t 35)), [8], none⟩, ⟨(some 37), (.call 19 [(.t 31), (.t 36)]), [4, 9], none⟩, ⟨(some 38),
  (.inot (.t 37)), [10], none⟩]) (.cond (.t 38) (.seq none (.region false [⟨(some 4), (.mov (.k (.one (.d (.bool false))))), [], none⟩]) .ret) .skip))) j19_2)
def lb19_0 : SCode :=
  (.seq (some [2, 3, 5]) (.seq none (.region false [⟨(some 20), (.mov (.t 5)), [], none⟩, ⟨(some 21), (.faddr 1 (.t 2)), [], none⟩, ⟨(some 22), (.load false 1 (.t 21)), [1], none⟩, ⟨(some 23),
  (.len false (.t 22)), [2], none⟩, ⟨(some 24), (.ibin .i64 .lss (.t 20) (.t 23)), [0, 3], none⟩]) (.cond (.t 24) .skip (.exit 0))) j19_1)
def j19_3 : SCode :=
  (.seq none (.region false [⟨(some 4), (.mov (.k (.one (.d (.bool true))))), [], none⟩]) .ret)
def j19_0 : SCode :=
  (.seq (some []) (.seq none (.region false [⟨(some 5), (.mov (.k (.one (.d (.int .i64 0))))), [], none⟩]) (.block 0 (.loop [2, 3, 5] lb19_0))) j19_3)
def sf19 : SFunc :=
  ⟨2, [(.tmp 4)], (.seq none (.region false [⟨(some 2), (.box [(.int .i64), (.lst 2)] (.t 0)), [], none⟩, ⟨(some 3), (.box [(.int .i64), (.lst 2)] (.t 1)), [], none⟩, ⟨(some 4),
  (.mov (.k (.one (.d (.bool false))))), [], none⟩]) (.seq (some [2, 3]) (.seq none (.region false [⟨(some 6), (.faddr 0 (.t 2)), [], none⟩, ⟨(some 7), (.load false 1 (.t 6)), [0], none⟩, ⟨(some 8),
  (.faddr 0 (.t 3)), [], none⟩, ⟨(some 9), (.load false 1 (.t 8)), [2], none⟩, ⟨(some 10), (.ibin .i64 .neq (.t 7) (.t 9)), [1, 3], none⟩, ⟨(some 11), (.mov (.t 10)), [4], none⟩, ⟨(some 12),
  (.faddr 1 (.t 2)), [5], (some (5, (11, false)))⟩, ⟨(some 13), (.load false 1 (.t 12)), [6, 5], (some (5, (11, false)))⟩, ⟨(some 14), (.len false (.t 13)), [7, 5], (some (5, (11, false)))⟩,
  ⟨(some 15), (.faddr 1 (.t 3)), [5], (some (5, (11, false)))⟩, ⟨(some 16), (.load false 1 (.t 15)), [9, 5], (some (5, (11, false)))⟩, ⟨(some 17), (.len false (.t 16)), [10, 5], (some (5, (11,
  false)))⟩, ⟨(some 18), (.ibin .i64 .neq (.t 14) (.t 17)), [8, 11, 5], (some (5, (11, false)))⟩, ⟨(some 19), (.pick (.t 11) (.k (.one (.d (.bool true)))) (.t 18)), [5, 12],
  none⟩]) (.cond (.t 19) (.seq none (.region false [⟨(some 4), (.mov (.k (.one (.d (.bool false))))), [], none⟩]) .ret) .skip)) j19_0))⟩
theorem c19 : compFunc Tryd.prog [none, some [2, 3], none, none, some [], none, some [2, 3, 5], some [2, 3, 5], none, some [2, 3, 5], none, none, none] Tryd.f19 = some sf19 := by kernel_rfl
/-! sortilege/value.TypeText -/
def j20_1 : SCode :=
  (.region false [⟨(some 19), (.ibin .i64 .add (.t 10) (.k (.one (.d (.int .i64 1))))), [], none⟩, ⟨(some 10), (.mov (.t 19)), [0], none⟩])
def j20_0 : SCode :=
  (.seq (some [1, 3, 8, 9, 10]) (.block 1 (.seq none (.region false [⟨(some 12), (.iaddr 2 (.t 8) (.t 10)), [], none⟩, ⟨(some 13), (.load true 2 (.t 12)), [0], none⟩, ⟨(some 5), (.alloc [(.int .i64),
  (.lst 2)] [(.d (.int .i64 0)), (.nilL 2)]), [], none⟩, ⟨none, (.store 2 (.t 5) (.t 13)), [2, 1, 0, 1, 2], none⟩]) (.region false [⟨(some 14), (.mov (.t 3)), [], none⟩, ⟨(some 15),
  (.load true 2 (.t 5)), [], none⟩, ⟨(some 16), (.call 20 [(.t 15)]), [1], none⟩, ⟨(some 17), (.lit 9 1 [(.t 16)]), [2], none⟩, ⟨(some 18), (.app 9 1 16 (.t 14) (.t 17)), [0, 3, 2], none⟩, ⟨(some 3),
  (.mov (.t 18)), [4, 4, 0, 1, 2, 3, 4], none⟩]))) j20_1)
def lb20_0 : SCode :=
  (.seq none (.region false [⟨(some 11), (.ibin .i64 .lss (.t 10) (.t 9)), [], none⟩]) (.seq (some [1, 3, 8, 9, 10]) (.cond (.t 11) .skip (.exit 0)) j20_0))
def j20_3 : SCode :=
  (.seq none (.region false [⟨(some 2), (.mov (.k (.one (.d (.str ⟨#[63]⟩))))), [], none⟩]) .ret)
def j20_2 : SCode :=
  (.seq none (.region false [⟨(some 20), (.mov (.t 3)), [], none⟩, ⟨(some 21), (.call 48 [(.t 20), (.k (.one (.d (.str ⟨#[44, 32]⟩))))]), [0], none⟩, ⟨(some 6), (.mov (.t 21)), [1, 1, 0, 1],
  none⟩]) (.seq (some []) (.seq none (.region false [⟨(some 22), (.faddr 0 (.t 1)), [], none⟩, ⟨(some 23), (.load false 1 (.t 22)), [0], none⟩]) (.block 2 (.seq none (.region false [⟨(some 25),
  (.ibin .i64 .eql (.t 23) (.k (.one (.d (.int .i64 1))))), [], none⟩, ⟨(some 24), (.mov (.t 25)), [0], none⟩]) (.cond (.t 24) (.seq none (.region false [⟨(some 2), (.mov (.k (.one (.d (.str ⟨#[98,
  111, 111, 108]⟩))))), [], none⟩]) .ret) (.seq none (.region false [⟨(some 27), (.ibin .i64 .eql (.t 23) (.k (.one (.d (.int .i64 2))))), [], none⟩, ⟨(some 26), (.mov (.t 27)), [0],
  none⟩]) (.cond (.t 26) (.seq none (.region false [⟨(some 2), (.mov (.k (.one (.d (.str ⟨#[105, 110, 116]⟩))))), [], none⟩]) .ret) (.seq none (.region false [⟨(some 29),
  (.ibin .i64 .eql (.t 23) (.k (.one (.d (.int .i64 3))))), [], none⟩, ⟨(some 28), (.mov (.t 29)), [0], none⟩]) (.cond (.t 28) (.seq none (.region false [⟨(some 30), (.mov (.t 6)), [], none⟩,
  ⟨(some 31), (.sbin .add (.k (.one (.d (.str ⟨#[40]⟩)))) (.t 30)), [0], none⟩, ⟨(some 32), (.sbin .add (.t 31) (.k (.one (.d (.str ⟨#[41]⟩))))), [1], none⟩, ⟨(some 2), (.mov (.t 32)), [2, 0, 1, 2],
  none⟩]) .ret) (.seq none (.region false [⟨(some 34), (.ibin .i64 .eql (.t 23) (.k (.one (.d (.int .i64 4))))), [], none⟩, ⟨(some 33), (.mov (.t 34)), [0],
  none⟩]) (.cond (.t 33) (.seq none (.region false [⟨(some 35), (.mov (.t 6)), [], none⟩, ⟨(some 36), (.sbin .add (.k (.one (.d (.str ⟨#[91]⟩)))) (.t 35)), [0], none⟩, ⟨(some 37),
  (.sbin .add (.t 36) (.k (.one (.d (.str ⟨#[93]⟩))))), [1], none⟩, ⟨(some 2), (.mov (.t 37)), [2, 0, 1, 2], none⟩]) .ret) .skip)))))))))) j20_3))
def sf20 : SFunc :=
  ⟨1, [(.tmp 2)], (.seq none (.region false [⟨(some 1), (.box [(.int .i64), (.lst 2)] (.t 0)), [], none⟩, ⟨(some 2), (.mov (.k (.one (.d (.str ⟨#[]⟩))))), [],
  none⟩]) (.seq none (.region false [⟨(some 3), (.mov (.k (.one (.nilL 1)))), [], none⟩]) (.seq (some [1, 3]) (.seq none (.region false [⟨(some 7), (.faddr 1 (.t 1)), [], none⟩, ⟨(some 8),
  (.load false 1 (.t 7)), [0], none⟩, ⟨(some 9), (.len false (.t 8)), [1], none⟩, ⟨(some 10), (.mov (.k (.one (.d (.int .i64 0))))), [], none⟩]) (.block 0 (.loop [1, 3, 8, 9, 10] lb20_0))) j20_2)))⟩
theorem c20 : compFunc Tryd.prog [none, none, some [1, 3], none, some [1, 3, 8, 9, 10], none, some [1, 3, 8, 9, 10], some [1, 3, 8, 9, 10], none, none, some [], none, none, none, none, none, none, none, none, none, none] Tryd.f20 = some sf20 := by kernel_rfl
/-! sortilege/sortilegeref03.TypeText -/
def j21_1 : SCode :=
  (.region false [⟨(some 10), (.mov (.t 4)), [], none⟩, ⟨(some 11), (.ibin .i64 .add (.t 10) (.k (.one (.d (.int .i64 1))))), [0], none⟩, ⟨(some 4), (.mov (.t 11)), [1, 0, 1], none⟩])
def j21_0 : SCode :=
  (.seq (some [1, 3, 4]) (.block 1 (.region false [⟨(some 12), (.mov (.t 3)), [], none⟩, ⟨(some 13), (.faddr 1 (.t 1)), [], none⟩, ⟨(some 14), (.load false 1 (.t 13)), [1], none⟩, ⟨(some 15),
  (.mov (.t 4)), [], none⟩, ⟨(some 16), (.iaddr 2 (.t 14) (.t 15)), [2, 3], none⟩, ⟨(some 17), (.load true 2 (.t 16)), [4], none⟩, ⟨(some 18), (.call 21 [(.t 17)]), [5], none⟩, ⟨(some 19),
  (.lit 9 1 [(.t 18)]), [6], none⟩, ⟨(some 20), (.app 9 1 16 (.t 12) (.t 19)), [0, 7, 6], none⟩, ⟨(some 3), (.mov (.t 20)), [8, 8, 0, 1, 2, 3, 4, 5, 6, 7, 8], none⟩])) j21_1)
def lb21_0 : SCode :=
  (.seq (some [1, 3, 4]) (.seq none (.region false [⟨(some 5), (.mov (.t 4)), [], none⟩, ⟨(some 6), (.faddr 1 (.t 1)), [], none⟩, ⟨(some 7), (.load false 1 (.t 6)), [1], none⟩, ⟨(some 8),
  (.len false (.t 7)), [2], none⟩, ⟨(some 9), (.ibin .i64 .lss (.t 5) (.t 8)), [0, 3], none⟩]) (.cond (.t 9) .skip (.exit 0))) j21_0)
def j21_3 : SCode :=
  (.seq none (.region false [⟨(some 2), (.mov (.k (.one (.d (.str ⟨#[63]⟩))))), [], none⟩]) .ret)
def j21_2 : SCode :=
  (.seq (some []) (.seq none (.region false [⟨(some 21), (.faddr 0 (.t 1)), [], none⟩, ⟨(some 22), (.load false 1 (.t 21)), [0], none⟩]) (.block 2 (.seq none (.region false [⟨(some 24),
  (.ibin .i64 .eql (.t 22) (.k (.one (.d (.int .i64 1))))), [], none⟩, ⟨(some 23), (.mov (.t 24)), [0], none⟩]) (.cond (.t 23) (.seq none (.region false [⟨(some 2), (.mov (.k (.one (.d (.str ⟨#[98,
  111, 111, 108]⟩))))), [], none⟩]) .ret) (.seq none (.region false [⟨(some 26), (.ibin .i64 .eql (.t 22) (.k (.one (.d (.int .i64 2))))), [], none⟩, ⟨(some 25), (.mov (.t 26)), [0],
  none⟩]) (.cond (.t 25) (.seq none (.region false [⟨(some 2), (.mov (.k (.one (.d (.str ⟨#[105, 110, 116]⟩))))), [], none⟩]) .ret) (.seq none (.region false [⟨(some 28),
  (.ibin .i64 .eql (.t 22) (.k (.one (.d (.int .i64 3))))), [], none⟩, ⟨(some 27), (.mov (.t 28)), [0], none⟩]) (.cond (.t 27) (.seq none (.region false [⟨(some 29), (.mov (.t 3)), [], none⟩,
  ⟨(some 30), (.call 49 [(.t 29)]), [0], none⟩, ⟨(some 31), (.sbin .add (.k (.one (.d (.str ⟨#[40]⟩)))) (.t 30)), [1], none⟩, ⟨(some 32), (.sbin .add (.t 31) (.k (.one (.d (.str ⟨#[41]⟩))))), [2],
  none⟩, ⟨(some 2), (.mov (.t 32)), [3, 1, 0, 1, 2, 3], none⟩]) .ret) (.seq none (.region false [⟨(some 34), (.ibin .i64 .eql (.t 22) (.k (.one (.d (.int .i64 4))))), [], none⟩, ⟨(some 33),
  (.mov (.t 34)), [0], none⟩]) (.cond (.t 33) (.seq none (.region false [⟨(some 35), (.mov (.t 3)), [], none⟩, ⟨(some 36), (.call 49 [(.t 35)]), [0], none⟩, ⟨(some 37),
  (.sbin .add (.k (.one (.d (.str ⟨#[91]⟩)))) (.t 36)), [1], none⟩, ⟨(some 38), (.sbin .add (.t 37) (.k (.one (.d (.str ⟨#[93]⟩))))), [2], none⟩, ⟨(some 2), (.mov (.t 38)), [3, 1, 0, 1, 2, 3],
  none⟩]) .ret) .skip)))))))))) j21_3)
def sf21 : SFunc :=
  ⟨1, [(.tmp 2)], (.seq none (.region false [⟨(some 1), (.box [(.int .i64), (.lst 2)] (.t 0)), [], none⟩, ⟨(some 2), (.mov (.k (.one (.d (.str ⟨#[]⟩))))), [],
  none⟩]) (.seq none (.region false [⟨(some 3), (.mov (.k (.one (.nilL 1)))), [], none⟩]) (.seq (some [1, 3]) (.seq none (.region false [⟨(some 4), (.mov (.k (.one (.d (.int .i64 0))))), [],
  none⟩]) (.block 0 (.loop [1, 3, 4] lb21_0))) j21_2)))⟩
theorem c21 : compFunc Tryd.prog [none, none, some [1, 3], none, some [1, 3, 4], some [1, 3, 4], none, some [1, 3, 4], some [], none, none, none, none, none, none, none, none, none, none] Tryd.f21 = some sf21 := by kernel_rfl
/-! sortilege/sortilegelaw03.AlikeTypes -/
def j22_2 : SCode :=
  (.region false [⟨(some 25), (.mov (.t 5)), [], none⟩, ⟨(some 26), (.ibin .i64 .add (.t 25) (.k (.one (.d (.int .i64 1))))), [0], none⟩, ⟨(some 5), (.mov (.t 26)), [1, 0, 1], none⟩])
def j22_1 : SCode :=
  (.seq (some [2, 3, 5]) (.block 1 (.seq none (.region true [⟨(some 27), (.faddr 1 (.t 2)), [], none⟩, ⟨(some 28), (.load false 1 (.t 27)), [0], none⟩, ⟨(some 29), (.mov (.t 5)), [], none⟩, ⟨(some 30),
  (.iaddr 2 (.t 28) (.t 29)), [1, 2], none⟩, ⟨(some 31), (.load true 2 (.t 30)), [3], none⟩, ⟨(some 32), (.faddr 1 (.t 3)), [], none⟩, ⟨(some 33), (.load false 1 (.t 32)), [5], none⟩, ⟨(some 34),
  (.mov (.t 5)), [], none⟩, ⟨(some 35), (.iaddr 2 (.t 33) (.t 34)), [6, 7], none⟩, ⟨(some 36), (.load true 2 (.t 35)), [8], none⟩, ⟨(some 37), (.call 22 [(.t 31), (.t 36)]), [4, 9], none⟩, ⟨(some 38),
  (.inot (.t 37)), [10], none⟩]) (.cond (.t 38) (.seq none (.region false [⟨(some 4), (.mov (.k (.one (.d (.bool false))))), [], none⟩]) .ret) .skip))) j22_2)
def lb22_0 : SCode :=
  (.seq (some [2, 3, 5]) (.seq none (.region false [⟨(some 20), (.mov (.t 5)), [], none⟩, ⟨(some 21), (.faddr 1 (.t 2)), [], none⟩, ⟨(some 22), (.load false 1 (.t 21)), [1], none⟩, ⟨(some 23),
  (.len false (.t 22)), [2], none⟩, ⟨(some 24), (.ibin .i64 .lss (.t 20) (.t 23)), [0, 3], none⟩]) (.cond (.t 24) .skip (.exit 0))) j22_1)
def j22_3 : SCode :=
  (.seq none (.region false [⟨(some 4), (.mov (.k (.one (.d (.bool true))))), [], none⟩]) .ret)
def j22_0 : SCode :=
  (.seq (some []) (.seq none (.region false [⟨(some 5), (.mov (.k (.one (.d (.int .i64 0))))), [], none⟩]) (.block 0 (.loop [2, 3, 5] lb22_0))) j22_3)
def sf22 : SFunc :=
  ⟨2, [(.tmp 4)], (.seq none (.region false [⟨(some 2), (.box [(.int .i64), (.lst 2)] (.t 0)), [], none⟩, ⟨(some 3), (.box [(.int .i64), (.lst 2)] (.t 1)), [], none⟩, ⟨(some 4),
  (.mov (.k (.one (.d (.bool false))))), [], none⟩]) (.seq (some [2, 3]) (.seq none (.region false [⟨(some 6), (.faddr 0 (.t 2)), [], none⟩, ⟨(some 7), (.load false 1 (.t 6)), [0], none⟩, ⟨(some 8),
  (.faddr 0 (.t 3)), [], none⟩, ⟨(some 9), (.load false 1 (.t 8)), [2], none⟩, ⟨(some 10), (.ibin .i64 .neq (.t 7) (.t 9)), [1, 3], none⟩, ⟨(some 11), (.mov (.t 10)), [4], none⟩, ⟨(some 12),
  (.faddr 1 (.t 2)), [5], (some (5, (11, false)))⟩, ⟨(some 13), (.load false 1 (.t 12)), [6, 5], (some (5, (11, false)))⟩, ⟨(some 14), (.len false (.t 13)), [7, 5], (some (5, (11, false)))⟩,
  ⟨(some 15), (.faddr 1 (.t 3)), [5], (some (5, (11, false)))⟩, ⟨(some 16), (.load false 1 (.t 15)), [9, 5], (some (5, (11, false)))⟩, ⟨(some 17), (.len false (.t 16)), [10, 5], (some (5, (11,
  false)))⟩, ⟨(some 18), (.ibin .i64 .neq (.t 14) (.t 17)), [8, 11, 5], (some (5, (11, false)))⟩, ⟨(some 19), (.pick (.t 11) (.k (.one (.d (.bool true)))) (.t 18)), [5, 12],
  none⟩]) (.cond (.t 19) (.seq none (.region false [⟨(some 4), (.mov (.k (.one (.d (.bool false))))), [], none⟩]) .ret) .skip)) j22_0))⟩
theorem c22 : compFunc Tryd.prog [none, some [2, 3], none, none, some [], none, some [2, 3, 5], some [2, 3, 5], none, some [2, 3, 5], none, none, none] Tryd.f22 = some sf22 := by kernel_rfl
/-! sortilege/sortilegelaw03.Few -/
def j23_1 : SCode :=
  (.region false [⟨(some 11), (.mov (.t 6)), [], none⟩, ⟨(some 12), (.ibin .i64 .add (.t 11) (.k (.one (.d (.int .i64 1))))), [0], none⟩, ⟨(some 6), (.mov (.t 12)), [1, 0, 1], none⟩])
def j23_0 : SCode :=
  (.seq (some [0, 1, 5, 6]) (.block 1 (.region false [⟨(some 13), (.mov (.t 1)), [], none⟩, ⟨(some 14), (.mov (.t 6)), [], none⟩, ⟨(some 15), (.iaddr 3 (.t 13) (.t 14)), [0, 1], none⟩, ⟨(some 16),
  (.load true 3 (.t 15)), [2], none⟩, ⟨(some 17), (.mov (.t 5)), [], none⟩, ⟨(some 18), (.mov (.t 0)), [], none⟩, ⟨(some 19), (.call 50 [(.t 16), (.t 17), (.t 18)]), [3, 4, 5], none⟩, ⟨(some 5),
  (.mov (.t 19)), [6, 6, 0, 1, 2, 3, 4, 5, 6], none⟩])) j23_1)
def lb23_0 : SCode :=
  (.seq (some [0, 1, 5, 6]) (.seq none (.region false [⟨(some 7), (.mov (.t 6)), [], none⟩, ⟨(some 8), (.mov (.t 1)), [], none⟩, ⟨(some 9), (.len false (.t 8)), [1], none⟩, ⟨(some 10),
  (.ibin .i64 .lss (.t 7) (.t 9)), [0, 2], none⟩]) (.cond (.t 10) .skip (.exit 0))) j23_0)
def j23_2 : SCode :=
  (.seq none (.region false [⟨(some 20), (.mov (.t 5)), [], none⟩, ⟨(some 21), (.mov (.t 0)), [], none⟩, ⟨(some 22), (.ibin .i64 .leq (.t 20) (.t 21)), [0, 1], none⟩, ⟨(some 4), (.mov (.t 22)), [2, 0,
  1, 2], none⟩]) .ret)
def sf23 : SFunc :=
  ⟨2, [(.tmp 4)], (.seq none (.region false [⟨(some 4), (.mov (.k (.one (.d (.bool false))))), [], none⟩]) (.seq none (.region false [⟨(some 5), (.mov (.k (.one (.d (.int .i64 0))))), [],
  none⟩]) (.seq (some [0, 5]) (.seq none (.region false [⟨(some 6), (.mov (.k (.one (.d (.int .i64 0))))), [], none⟩]) (.block 0 (.loop [0, 1, 5, 6] lb23_0))) j23_2)))⟩
theorem c23 : compFunc Tryd.prog [none, none, some [0, 5], none, some [0, 1, 5, 6], some [0, 1, 5, 6], none, some [0, 1, 5, 6], none] Tryd.f23 = some sf23 := by kernel_rfl
/-! sortilege/value.Has -/
def sf24 : SFunc :=
  ⟨2, [(.tmp 4)], (.seq none (.region false [⟨(some 2), (.box [(.int .i64), (.lst 2)] (.t 0)), [], none⟩, ⟨(some 3), (.box [(.int .i64), (.int .i64), (.lst 3)] (.t 1)), [], none⟩, ⟨(some 4),
  (.mov (.k (.one (.d (.bool false))))), [], none⟩]) (.seq none (.region false [⟨(some 5), (.load true 2 (.t 2)), [], none⟩, ⟨(some 6), (.call 16 [(.t 5)]), [0], none⟩, ⟨(some 7), (.mov (.t 6)), [1,
  1], none⟩, ⟨(some 8), (.load true 2 (.t 2)), [2], (some (2, (7, true)))⟩, ⟨(some 9), (.load true 3 (.t 3)), [2], (some (2, (7, true)))⟩, ⟨(some 10), (.call 51 [(.t 8), (.t 9)]), [3, 4, 2, 2],
  (some (2, (7, true)))⟩, ⟨(some 11), (.pick (.t 7) (.t 10) (.k (.one (.d (.bool false))))), [2, 5], none⟩, ⟨(some 12), (.mov (.t 11)), [6, 5], none⟩, ⟨(some 13), (.load true 3 (.t 3)), [7], (some (7,
  (12, true)))⟩, ⟨(some 14), (.call 28 [(.t 13)]), [8, 7, 7], (some (7, (12, true)))⟩, ⟨(some 15), (.ibin .i64 .leq (.t 14) (.k (.one (.d (.int .i64 1000))))), [9, 7], (some (7, (12, true)))⟩,
  ⟨(some 16), (.pick (.t 12) (.t 15) (.k (.one (.d (.bool false))))), [7, 10], none⟩, ⟨(some 4), (.mov (.t 16)), [11, 9, 0, 1, 2, 3, 4, 5, 6, 7, 8, 9, 10, 11], none⟩]) .ret))⟩
theorem c24 : compFunc Tryd.prog [none, none] Tryd.f24 = some sf24 := by kernel_rfl
/-! sortilege/sortilegeref03.Has -/
def sf25 : SFunc :=
  ⟨2, [(.tmp 4)], (.seq none (.region false [⟨(some 2), (.box [(.int .i64), (.lst 2)] (.t 0)), [], none⟩, ⟨(some 3), (.box [(.int .i64), (.int .i64), (.lst 3)] (.t 1)), [], none⟩, ⟨(some 4),
  (.mov (.k (.one (.d (.bool false))))), [], none⟩]) (.seq none (.region false [⟨(some 5), (.load true 2 (.t 2)), [], none⟩, ⟨(some 6), (.call 17 [(.t 5)]), [0], none⟩, ⟨(some 7), (.mov (.t 6)), [1,
  1], none⟩, ⟨(some 8), (.load true 2 (.t 2)), [2], (some (2, (7, true)))⟩, ⟨(some 9), (.load true 3 (.t 3)), [2], (some (2, (7, true)))⟩, ⟨(some 10), (.call 52 [(.t 8), (.t 9)]), [3, 4, 2, 2],
  (some (2, (7, true)))⟩, ⟨(some 11), (.pick (.t 7) (.t 10) (.k (.one (.d (.bool false))))), [2, 5], none⟩, ⟨(some 12), (.mov (.t 11)), [6, 5], none⟩, ⟨(some 13), (.load true 3 (.t 3)), [7], (some (7,
  (12, true)))⟩, ⟨(some 14), (.call 29 [(.t 13)]), [8, 7, 7], (some (7, (12, true)))⟩, ⟨(some 15), (.ibin .i64 .leq (.t 14) (.k (.one (.d (.int .i64 1000))))), [9, 7], (some (7, (12, true)))⟩,
  ⟨(some 16), (.pick (.t 12) (.t 15) (.k (.one (.d (.bool false))))), [7, 10], none⟩, ⟨(some 4), (.mov (.t 16)), [11, 9, 0, 1, 2, 3, 4, 5, 6, 7, 8, 9, 10, 11], none⟩]) .ret))⟩
theorem c25 : compFunc Tryd.prog [none, none] Tryd.f25 = some sf25 := by kernel_rfl
/-! sortilege/value.Right -/
def sf26 : SFunc :=
  ⟨1, [(.tmp 2)], (.seq none (.region false [⟨(some 1), (.box [(.int .i64), (.int .i64), (.lst 3)] (.t 0)), [], none⟩, ⟨(some 2), (.mov (.k (.one (.d (.bool false))))), [],
  none⟩]) (.seq none (.region false [⟨(some 6), (.load true 3 (.t 1)), [], none⟩, ⟨(some 7), (.call 53 [(.t 6), (.k (.one (.d (.int .i64 40))))]), [0], none⟩, ⟨(some 5), (.mov (.t 7)), [1], none⟩,
  ⟨(some 8), (.ext (.t 5) 0), [2], none⟩, ⟨(some 9), (.ext (.t 5) 1), [2], none⟩, ⟨(some 3), (.alloc [(.int .i64), (.lst 2)] [(.d (.int .i64 0)), (.nilL 2)]), [], none⟩, ⟨none,
  (.store 2 (.t 3) (.t 8)), [5, 3, 1, 0, 1, 2, 3, 5], none⟩, ⟨(some 4), (.mov (.t 9)), [4, 6, 0, 1, 2, 3, 4, 5, 6], none⟩]) (.seq none (.region false [⟨(some 10), (.mov (.t 4)), [], none⟩, ⟨(some 11),
  (.mov (.t 10)), [0], none⟩, ⟨(some 12), (.load true 2 (.t 3)), [1], (some (1, (11, true)))⟩, ⟨(some 13), (.call 54 [(.t 12)]), [2, 1, 1], (some (1, (11, true)))⟩, ⟨(some 14), (.call 16 [(.t 13)]),
  [3, 3, 1], (some (1, (11, true)))⟩, ⟨(some 15), (.pick (.t 11) (.t 14) (.k (.one (.d (.bool false))))), [1, 4], none⟩, ⟨(some 16), (.mov (.t 15)), [5, 4], none⟩, ⟨(some 17), (.load true 3 (.t 1)),
  [6], (some (6, (16, true)))⟩, ⟨(some 18), (.call 28 [(.t 17)]), [7, 6, 6], (some (6, (16, true)))⟩, ⟨(some 19), (.ibin .i64 .leq (.t 18) (.k (.one (.d (.int .i64 1000))))), [8, 6], (some (6, (16,
  true)))⟩, ⟨(some 20), (.pick (.t 16) (.t 19) (.k (.one (.d (.bool false))))), [6, 9], none⟩, ⟨(some 2), (.mov (.t 20)), [10, 8, 0, 1, 2, 3, 4, 5, 6, 7, 8, 9, 10], none⟩]) .ret)))⟩
theorem c26 : compFunc Tryd.prog [none, none, none] Tryd.f26 = some sf26 := by kernel_rfl
/-! sortilege/sortilegeref03.Right -/
def j27_0 : SCode :=
  (.seq none (.region false [⟨(some 9), (.load true 3 (.t 1)), [], none⟩, ⟨(some 10), (.call 55 [(.t 9), (.k (.one (.d (.int .i64 1))))]), [0], none⟩, ⟨(some 8), (.mov (.t 10)), [1], none⟩, ⟨(some 11),
  (.ext (.t 8) 0), [2], none⟩, ⟨(some 12), (.ext (.t 8) 1), [2], none⟩, ⟨(some 3), (.alloc [(.int .i64), (.lst 2)] [(.d (.int .i64 0)), (.nilL 2)]), [], none⟩, ⟨none, (.store 2 (.t 3) (.t 11)), [5, 3,
  1, 0, 1, 2, 3, 5], none⟩, ⟨(some 4), (.mov (.t 12)), [4, 6, 0, 1, 2, 3, 4, 5, 6], none⟩]) (.seq none (.region false [⟨(some 13), (.mov (.t 4)), [], none⟩, ⟨(some 2), (.mov (.t 13)), [0, 0],
  none⟩]) .ret))
def sf27 : SFunc :=
  ⟨1, [(.tmp 2)], (.seq none (.region false [⟨(some 1), (.box [(.int .i64), (.int .i64), (.lst 3)] (.t 0)), [], none⟩, ⟨(some 2), (.mov (.k (.one (.d (.bool false))))), [],
  none⟩]) (.seq (some [1]) (.seq none (.region false [⟨(some 5), (.load true 3 (.t 1)), [], none⟩, ⟨(some 6), (.call 29 [(.t 5)]), [0], none⟩, ⟨(some 7),
  (.ibin .i64 .gtr (.t 6) (.k (.one (.d (.int .i64 1000))))), [1], none⟩]) (.cond (.t 7) (.seq none (.region false [⟨(some 2), (.mov (.k (.one (.d (.bool false))))), [], none⟩]) .ret) .skip)) j27_0))⟩
theorem c27 : compFunc Tryd.prog [none, some [1], none, none, none, none] Tryd.f27 = some sf27 := by kernel_rfl
/-! sortilege/value.Size -/
def j28_1 : SCode :=
  (.region false [⟨(some 20), (.ibin .i64 .add (.t 9) (.k (.one (.d (.int .i64 1))))), [], none⟩, ⟨(some 9), (.mov (.t 20)), [0], none⟩])
def j28_0 : SCode :=
  (.seq (some [3, 7, 8, 9]) (.block 1 (.seq none (.region false [⟨(some 11), (.iaddr 3 (.t 7) (.t 9)), [], none⟩, ⟨(some 12), (.load true 3 (.t 11)), [0], none⟩, ⟨(some 5), (.alloc [(.int .i64),
  (.int .i64), (.lst 3)] [(.d (.int .i64 0)), (.d (.int .i64 0)), (.nilL 3)]), [], none⟩, ⟨none, (.store 3 (.t 5) (.t 12)), [2, 1, 0, 1, 2], none⟩]) (.seq none (.region false [⟨(some 13),
  (.mov (.t 3)), [], none⟩, ⟨(some 14), (.load true 3 (.t 5)), [], none⟩, ⟨(some 15), (.call 28 [(.t 14)]), [1], none⟩, ⟨(some 16), (.ibin .i64 .add (.t 13) (.t 15)), [0, 2], none⟩, ⟨(some 17),
  (.mnmx false (.t 16) (.k (.one (.d (.int .i64 1001))))), [3], none⟩, ⟨(some 3), (.mov (.t 17)), [4, 2, 0, 1, 2, 3, 4], none⟩]) (.seq none (.region false [⟨(some 18), (.mov (.t 3)), [], none⟩,
  ⟨(some 19), (.ibin .i64 .gtr (.t 18) (.k (.one (.d (.int .i64 1000))))), [0], none⟩]) (.cond (.t 19) (.exit 0) .skip))))) j28_1)
def lb28_0 : SCode :=
  (.seq none (.region false [⟨(some 10), (.ibin .i64 .lss (.t 9) (.t 8)), [], none⟩]) (.seq (some [3, 7, 8, 9]) (.cond (.t 10) .skip (.exit 0)) j28_0))
def j28_2 : SCode :=
  (.seq none (.region false [⟨(some 21), (.mov (.t 3)), [], none⟩, ⟨(some 2), (.mov (.t 21)), [0, 0], none⟩]) .ret)
def sf28 : SFunc :=
  ⟨1, [(.tmp 2)], (.seq none (.region false [⟨(some 1), (.box [(.int .i64), (.int .i64), (.lst 3)] (.t 0)), [], none⟩, ⟨(some 2), (.mov (.k (.one (.d (.int .i64 0))))), [],
  none⟩]) (.seq none (.region false [⟨(some 3), (.mov (.k (.one (.d (.int .i64 1))))), [], none⟩]) (.seq (some [3]) (.seq none (.region false [⟨(some 6), (.faddr 2 (.t 1)), [], none⟩, ⟨(some 7),
  (.load false 1 (.t 6)), [0], none⟩, ⟨(some 8), (.len false (.t 7)), [1], none⟩, ⟨(some 9), (.mov (.k (.one (.d (.int .i64 0))))), [], none⟩]) (.block 0 (.loop [3, 7, 8, 9] lb28_0))) j28_2)))⟩
theorem c28 : compFunc Tryd.prog [none, none, some [3], none, some [3, 7, 8, 9], none, some [3, 7, 8, 9], some [3, 7, 8, 9], none, none, none, none] Tryd.f28 = some sf28 := by kernel_rfl
/-! sortilege/sortilegeref03.Size -/
def sf29 : SFunc :=
  ⟨1, [(.tmp 2)], (.seq none (.region false [⟨(some 1), (.box [(.int .i64), (.int .i64), (.lst 3)] (.t 0)), [], none⟩, ⟨(some 2), (.mov (.k (.one (.d (.int .i64 0))))), [],
  none⟩]) (.seq none (.region false [⟨(some 3), (.load true 3 (.t 1)), [], none⟩, ⟨(some 4), (.call 56 [(.t 3), (.k (.one (.d (.int .i64 0))))]), [0], none⟩, ⟨(some 2), (.mov (.t 4)), [1, 1, 0, 1],
  none⟩]) .ret))⟩
theorem c29 : compFunc Tryd.prog [none, none] Tryd.f29 = some sf29 := by kernel_rfl
/-! sortilege/value.Compare -/
def j30_1 : SCode :=
  (.seq none (.region false [⟨(some 25), (.mov (.t 5)), [], none⟩, ⟨(some 4), (.mov (.t 25)), [0, 0], none⟩]) .ret)
def j30_0 : SCode :=
  (.seq (some [5]) (.seq none (.region false [⟨(some 18), (.mov (.t 5)), [], none⟩, ⟨(some 19), (.ibin .i64 .eql (.t 18) (.k (.one (.d (.int .i64 0))))), [0],
  none⟩]) (.cond (.t 19) (.region false [⟨(some 20), (.faddr 2 (.t 2)), [], none⟩, ⟨(some 21), (.load false 1 (.t 20)), [0], none⟩, ⟨(some 22), (.faddr 2 (.t 3)), [], none⟩, ⟨(some 23),
  (.load false 1 (.t 22)), [2], none⟩, ⟨(some 24), (.call 58 [(.t 21), (.t 23), (.k (.one (.fn 30 [])))]), [1, 3], none⟩, ⟨(some 5), (.mov (.t 24)), [4, 4, 0, 1, 2, 3, 4], none⟩]) .skip)) j30_1)
def sf30 : SFunc :=
  ⟨2, [(.tmp 4)], (.seq none (.region false [⟨(some 2), (.box [(.int .i64), (.int .i64), (.lst 3)] (.t 0)), [], none⟩, ⟨(some 3), (.box [(.int .i64), (.int .i64), (.lst 3)] (.t 1)), [], none⟩,
  ⟨(some 4), (.mov (.k (.one (.d (.int .i64 0))))), [], none⟩]) (.seq none (.region false [⟨(some 6), (.faddr 0 (.t 2)), [], none⟩, ⟨(some 7), (.load false 1 (.t 6)), [0], none⟩, ⟨(some 8),
  (.faddr 0 (.t 3)), [], none⟩, ⟨(some 9), (.load false 1 (.t 8)), [2], none⟩, ⟨(some 10), (.call 57 [(.t 7), (.t 9)]), [1, 3], none⟩, ⟨(some 5), (.mov (.t 10)), [4, 4, 0, 1, 2, 3, 4],
  none⟩]) (.seq (some [2, 3, 5]) (.seq none (.region false [⟨(some 11), (.mov (.t 5)), [], none⟩, ⟨(some 12), (.ibin .i64 .eql (.t 11) (.k (.one (.d (.int .i64 0))))), [0],
  none⟩]) (.cond (.t 12) (.region false [⟨(some 13), (.faddr 1 (.t 2)), [], none⟩, ⟨(some 14), (.load false 1 (.t 13)), [0], none⟩, ⟨(some 15), (.faddr 1 (.t 3)), [], none⟩, ⟨(some 16),
  (.load false 1 (.t 15)), [2], none⟩, ⟨(some 17), (.call 57 [(.t 14), (.t 16)]), [1, 3], none⟩, ⟨(some 5), (.mov (.t 17)), [4, 4, 0, 1, 2, 3, 4], none⟩]) .skip)) j30_0)))⟩
theorem c30 : compFunc Tryd.prog [none, none, some [2, 3, 5], none, some [5], none, none] Tryd.f30 = some sf30 := by kernel_rfl
/-! sortilege/sortilegeref03.Compare -/
def j31_2 : SCode :=
  (.region false [⟨(some 35), (.mov (.t 6)), [], none⟩, ⟨(some 36), (.ibin .i64 .add (.t 35) (.k (.one (.d (.int .i64 1))))), [0], none⟩, ⟨(some 6), (.mov (.t 36)), [1, 0, 1], none⟩])
def j31_1 : SCode :=
  (.seq (some [2, 3, 5, 6]) (.block 1 (.region true [⟨(some 37), (.faddr 2 (.t 2)), [], none⟩, ⟨(some 38), (.load false 1 (.t 37)), [0], none⟩, ⟨(some 39), (.mov (.t 6)), [], none⟩, ⟨(some 40),
  (.iaddr 3 (.t 38) (.t 39)), [1, 2], none⟩, ⟨(some 41), (.load true 3 (.t 40)), [3], none⟩, ⟨(some 42), (.faddr 2 (.t 3)), [], none⟩, ⟨(some 43), (.load false 1 (.t 42)), [5], none⟩, ⟨(some 44),
  (.mov (.t 6)), [], none⟩, ⟨(some 45), (.iaddr 3 (.t 43) (.t 44)), [6, 7], none⟩, ⟨(some 46), (.load true 3 (.t 45)), [8], none⟩, ⟨(some 47), (.call 31 [(.t 41), (.t 46)]), [4, 9], none⟩, ⟨(some 5),
  (.mov (.t 47)), [10, 10, 0, 1, 2, 3, 4, 5, 6, 7, 8, 9, 10], none⟩])) j31_2)
def lb31_0 : SCode :=
  (.seq (some [2, 3, 6]) (.seq none (.region false [⟨(some 19), (.mov (.t 5)), [], none⟩, ⟨(some 20), (.ibin .i64 .eql (.t 19) (.k (.one (.d (.int .i64 0))))), [0], none⟩, ⟨(some 21), (.mov (.t 20)),
  [1], none⟩, ⟨(some 22), (.mov (.t 6)), [2], (some (2, (21, true)))⟩, ⟨(some 23), (.faddr 2 (.t 2)), [2], (some (2, (21, true)))⟩, ⟨(some 24), (.load false 1 (.t 23)), [4, 2], (some (2, (21,
  true)))⟩, ⟨(some 25), (.len false (.t 24)), [5, 2], (some (2, (21, true)))⟩, ⟨(some 26), (.ibin .i64 .lss (.t 22) (.t 25)), [3, 6, 2], (some (2, (21, true)))⟩, ⟨(some 27),
  (.pick (.t 21) (.t 26) (.k (.one (.d (.bool false))))), [2, 7], none⟩, ⟨(some 28), (.mov (.t 27)), [8, 2], none⟩, ⟨(some 29), (.mov (.t 6)), [9], (some (9, (28, true)))⟩, ⟨(some 30),
  (.faddr 2 (.t 3)), [9], (some (9, (28, true)))⟩, ⟨(some 31), (.load false 1 (.t 30)), [11, 9], (some (9, (28, true)))⟩, ⟨(some 32), (.len false (.t 31)), [12, 9], (some (9, (28, true)))⟩,
  ⟨(some 33), (.ibin .i64 .lss (.t 29) (.t 32)), [10, 13, 9], (some (9, (28, true)))⟩, ⟨(some 34), (.pick (.t 28) (.t 33) (.k (.one (.d (.bool false))))), [9, 14],
  none⟩]) (.cond (.t 34) .skip (.exit 0))) j31_1)
def j31_4 : SCode :=
  (.seq none (.region false [⟨(some 57), (.mov (.t 5)), [], none⟩, ⟨(some 4), (.mov (.t 57)), [0, 0], none⟩]) .ret)
def j31_3 : SCode :=
  (.seq (some [5]) (.seq none (.region false [⟨(some 48), (.mov (.t 5)), [], none⟩, ⟨(some 49), (.ibin .i64 .eql (.t 48) (.k (.one (.d (.int .i64 0))))), [0],
  none⟩]) (.cond (.t 49) (.region false [⟨(some 50), (.faddr 2 (.t 2)), [], none⟩, ⟨(some 51), (.load false 1 (.t 50)), [0], none⟩, ⟨(some 52), (.len false (.t 51)), [1], none⟩, ⟨(some 53),
  (.faddr 2 (.t 3)), [], none⟩, ⟨(some 54), (.load false 1 (.t 53)), [3], none⟩, ⟨(some 55), (.len false (.t 54)), [4], none⟩, ⟨(some 56), (.call 59 [(.t 52), (.t 55)]), [2, 5], none⟩, ⟨(some 5),
  (.mov (.t 56)), [6, 6, 0, 1, 2, 3, 4, 5, 6], none⟩]) .skip)) j31_4)
def j31_0 : SCode :=
  (.seq (some [2, 3, 5]) (.seq none (.region false [⟨(some 6), (.mov (.k (.one (.d (.int .i64 0))))), [], none⟩]) (.block 0 (.loop [2, 3, 5, 6] lb31_0))) j31_3)
def sf31 : SFunc :=
  ⟨2, [(.tmp 4)], (.seq none (.region false [⟨(some 2), (.box [(.int .i64), (.int .i64), (.lst 3)] (.t 0)), [], none⟩, ⟨(some 3), (.box [(.int .i64), (.int .i64), (.lst 3)] (.t 1)), [], none⟩,
  ⟨(some 4), (.mov (.k (.one (.d (.int .i64 0))))), [], none⟩]) (.seq none (.region false [⟨(some 7), (.faddr 0 (.t 2)), [], none⟩, ⟨(some 8), (.load false 1 (.t 7)), [0], none⟩, ⟨(some 9),
  (.faddr 0 (.t 3)), [], none⟩, ⟨(some 10), (.load false 1 (.t 9)), [2], none⟩, ⟨(some 11), (.call 59 [(.t 8), (.t 10)]), [1, 3], none⟩, ⟨(some 5), (.mov (.t 11)), [4, 4, 0, 1, 2, 3, 4],
  none⟩]) (.seq (some [2, 3, 5]) (.seq none (.region false [⟨(some 12), (.mov (.t 5)), [], none⟩, ⟨(some 13), (.ibin .i64 .eql (.t 12) (.k (.one (.d (.int .i64 0))))), [0],
  none⟩]) (.cond (.t 13) (.region false [⟨(some 14), (.faddr 1 (.t 2)), [], none⟩, ⟨(some 15), (.load false 1 (.t 14)), [0], none⟩, ⟨(some 16), (.faddr 1 (.t 3)), [], none⟩, ⟨(some 17),
  (.load false 1 (.t 16)), [2], none⟩, ⟨(some 18), (.call 59 [(.t 15), (.t 17)]), [1, 3], none⟩, ⟨(some 5), (.mov (.t 18)), [4, 4, 0, 1, 2, 3, 4], none⟩]) .skip)) j31_0)))⟩
theorem c31 : compFunc Tryd.prog [none, none, some [2, 3, 5], none, some [2, 3, 5], none, some [2, 3, 5, 6], some [2, 3, 6], none, some [2, 3, 5, 6], some [5], none, none] Tryd.f31 = some sf31 := by kernel_rfl
/-! sortilege/value.Same -/
def sf32 : SFunc :=
  ⟨2, [(.tmp 4)], (.seq none (.region false [⟨(some 2), (.box [(.int .i64), (.int .i64), (.lst 3)] (.t 0)), [], none⟩, ⟨(some 3), (.box [(.int .i64), (.int .i64), (.lst 3)] (.t 1)), [], none⟩,
  ⟨(some 4), (.mov (.k (.one (.d (.bool false))))), [], none⟩]) (.seq none (.region false [⟨(some 5), (.load true 3 (.t 2)), [], none⟩, ⟨(some 6), (.load true 3 (.t 3)), [], none⟩, ⟨(some 7),
  (.call 30 [(.t 5), (.t 6)]), [0, 1], none⟩, ⟨(some 8), (.ibin .i64 .eql (.t 7) (.k (.one (.d (.int .i64 0))))), [2], none⟩, ⟨(some 4), (.mov (.t 8)), [3, 2, 0, 1, 2, 3], none⟩]) .ret))⟩
theorem c32 : compFunc Tryd.prog [none, none] Tryd.f32 = some sf32 := by kernel_rfl
/-! sortilege/sortilegeref03.Same -/
def sf33 : SFunc :=
  ⟨2, [(.tmp 4)], (.seq none (.region false [⟨(some 2), (.box [(.int .i64), (.int .i64), (.lst 3)] (.t 0)), [], none⟩, ⟨(some 3), (.box [(.int .i64), (.int .i64), (.lst 3)] (.t 1)), [], none⟩,
  ⟨(some 4), (.mov (.k (.one (.d (.bool false))))), [], none⟩]) (.seq none (.region false [⟨(some 5), (.load true 3 (.t 2)), [], none⟩, ⟨(some 6), (.load true 3 (.t 3)), [], none⟩, ⟨(some 7),
  (.call 31 [(.t 5), (.t 6)]), [0, 1], none⟩, ⟨(some 8), (.ibin .i64 .eql (.t 7) (.k (.one (.d (.int .i64 0))))), [2], none⟩, ⟨(some 4), (.mov (.t 8)), [3, 2, 0, 1, 2, 3], none⟩]) .ret))⟩
theorem c33 : compFunc Tryd.prog [none, none] Tryd.f33 = some sf33 := by kernel_rfl
/-! sortilege/value.Parse -/
def j34_1 : SCode :=
  (.seq none (.region false [⟨(some 33), (.load true 3 (.t 6)), [], none⟩, ⟨none, (.store 3 (.t 4) (.t 33)), [0, 0], none⟩, ⟨(some 5), (.mov (.k (.one (.d (.int .i64 0))))), [1, 0, 1], none⟩]) .ret)
def j34_0 : SCode :=
  (.seq none (.region false [⟨(some 14), (.load true 2 (.t 2)), [], none⟩, ⟨(some 15), (.mov (.t 1)), [], none⟩, ⟨(some 16), (.call 60 [(.t 14), (.t 15)]), [0, 1], none⟩, ⟨(some 13), (.mov (.t 16)),
  [2], none⟩, ⟨(some 17), (.ext (.t 13) 0), [3], none⟩, ⟨(some 18), (.ext (.t 13) 1), [3], none⟩, ⟨(some 19), (.ext (.t 13) 2), [3], none⟩, ⟨(some 6), (.alloc [(.int .i64), (.int .i64),
  (.lst 3)] [(.d (.int .i64 0)), (.d (.int .i64 0)), (.nilL 3)]), [], none⟩, ⟨none, (.store 3 (.t 6) (.t 17)), [7, 4, 2, 0, 1, 2, 3, 4, 7], none⟩, ⟨(some 7), (.mov (.t 18)), [5, 8, 0, 1, 2, 3, 4, 5,
  7, 8], none⟩, ⟨(some 8), (.mov (.t 19)), [6, 9, 0, 1, 2, 3, 4, 5, 6, 7, 8, 9], none⟩]) (.seq (some [4, 6]) (.seq none (.region false [⟨(some 20), (.mov (.t 8)), [], none⟩, ⟨(some 21),
  (.inot (.t 20)), [0], none⟩, ⟨(some 22), (.mov (.t 21)), [1], none⟩, ⟨(some 23), (.mov (.t 7)), [2], (some (2, (22, false)))⟩, ⟨(some 24), (.sbin .neq (.t 23) (.k (.one (.d (.str ⟨#[]⟩))))), [3, 2],
  (some (2, (22, false)))⟩, ⟨(some 25), (.pick (.t 22) (.k (.one (.d (.bool true)))) (.t 24)), [2, 4], none⟩, ⟨(some 26), (.mov (.t 25)), [5, 2], none⟩, ⟨(some 27), (.load true 2 (.t 2)), [6],
  (some (6, (26, false)))⟩, ⟨(some 28), (.load true 3 (.t 6)), [6], (some (6, (26, false)))⟩, ⟨(some 29), (.call 24 [(.t 27), (.t 28)]), [7, 8, 6, 6], (some (6, (26, false)))⟩, ⟨(some 30),
  (.inot (.t 29)), [9, 6], (some (6, (26, false)))⟩, ⟨(some 31), (.pick (.t 26) (.k (.one (.d (.bool true)))) (.t 30)), [6, 10], none⟩]) (.cond (.t 31) (.seq none (.region false [⟨(some 32),
  (.build [(.d (.int .i64 0)), (.d (.int .i64 0)), (.nilL 3)] []), [], none⟩, ⟨none, (.store 3 (.t 4) (.t 32)), [0, 0], none⟩, ⟨(some 5), (.mov (.k (.one (.d (.int .i64 33))))), [1, 0, 1],
  none⟩]) .ret) .skip)) j34_1))
def sf34 : SFunc :=
  ⟨2, [(.cell true 3 4), (.tmp 5)], (.seq none (.region false [⟨(some 2), (.box [(.int .i64), (.lst 2)] (.t 0)), [], none⟩, ⟨(some 4), (.alloc [(.int .i64), (.int .i64), (.lst 3)] [(.d (.int .i64 0)),
  (.d (.int .i64 0)), (.nilL 3)]), [], none⟩, ⟨(some 5), (.mov (.k (.one (.d (.int .i64 0))))), [], none⟩]) (.seq (some [1, 2, 4]) (.seq none (.region false [⟨(some 9), (.load true 2 (.t 2)), [],
  none⟩, ⟨(some 10), (.call 16 [(.t 9)]), [0], none⟩, ⟨(some 11), (.inot (.t 10)), [1], none⟩]) (.cond (.t 11) (.seq none (.region false [⟨(some 12), (.build [(.d (.int .i64 0)), (.d (.int .i64 0)),
  (.nilL 3)] []), [], none⟩, ⟨none, (.store 3 (.t 4) (.t 12)), [0, 0], none⟩, ⟨(some 5), (.mov (.k (.one (.d (.int .i64 1))))), [1, 0, 1], none⟩]) .ret) .skip)) j34_0))⟩
theorem c34 : compFunc Tryd.prog [none, some [1, 2, 4], none, none, none, some [4, 6], none, none, none] Tryd.f34 = some sf34 := by kernel_rfl
/-! sortilege/sortilegeref03.Parse -/
def j35_1 : SCode :=
  (.seq none (.region false [⟨(some 34), (.load true 3 (.t 6)), [], none⟩, ⟨none, (.store 3 (.t 4) (.t 34)), [0, 0], none⟩, ⟨(some 5), (.mov (.k (.one (.d (.int .i64 0))))), [1, 0, 1], none⟩]) .ret)
def j35_0 : SCode :=
  (.seq none (.region false [⟨(some 14), (.load true 2 (.t 2)), [], none⟩, ⟨(some 15), (.mov (.t 1)), [], none⟩, ⟨(some 16), (.call 61 [(.t 14), (.t 15), (.k (.one (.d (.int .i64 0))))]), [0, 1], none⟩,
  ⟨(some 13), (.mov (.t 16)), [2], none⟩, ⟨(some 17), (.ext (.t 13) 0), [3], none⟩, ⟨(some 18), (.ext (.t 13) 1), [3], none⟩, ⟨(some 19), (.ext (.t 13) 2), [3], none⟩, ⟨(some 6), (.alloc [(.int .i64),
  (.int .i64), (.lst 3)] [(.d (.int .i64 0)), (.d (.int .i64 0)), (.nilL 3)]), [], none⟩, ⟨none, (.store 3 (.t 6) (.t 17)), [7, 4, 2, 0, 1, 2, 3, 4, 7], none⟩, ⟨(some 7), (.mov (.t 18)), [5, 8, 0, 1,
  2, 3, 4, 5, 7, 8], none⟩, ⟨(some 8), (.mov (.t 19)), [6, 9, 0, 1, 2, 3, 4, 5, 6, 7, 8, 9], none⟩]) (.seq (some [4, 6]) (.seq none (.region false [⟨(some 20), (.mov (.t 8)), [], none⟩, ⟨(some 21),
  (.inot (.t 20)), [0], none⟩, ⟨(some 22), (.mov (.t 21)), [1], none⟩, ⟨(some 23), (.mov (.t 7)), [2], (some (2, (22, false)))⟩, ⟨(some 24), (.mov (.t 1)), [2], (some (2, (22, false)))⟩, ⟨(some 25),
  (.len true (.t 24)), [4, 2], (some (2, (22, false)))⟩, ⟨(some 26), (.ibin .i64 .neq (.t 23) (.t 25)), [3, 5, 2], (some (2, (22, false)))⟩, ⟨(some 27),
  (.pick (.t 22) (.k (.one (.d (.bool true)))) (.t 26)), [2, 6], none⟩, ⟨(some 28), (.mov (.t 27)), [7, 2], none⟩, ⟨(some 29), (.load true 3 (.t 6)), [8], (some (8, (28, false)))⟩, ⟨(some 30),
  (.call 29 [(.t 29)]), [9, 8, 8], (some (8, (28, false)))⟩, ⟨(some 31), (.ibin .i64 .gtr (.t 30) (.k (.one (.d (.int .i64 1000))))), [10, 8], (some (8, (28, false)))⟩, ⟨(some 32),
  (.pick (.t 28) (.k (.one (.d (.bool true)))) (.t 31)), [8, 11], none⟩]) (.cond (.t 32) (.seq none (.region false [⟨(some 33), (.build [(.d (.int .i64 0)), (.d (.int .i64 0)), (.nilL 3)] []), [],
  none⟩, ⟨none, (.store 3 (.t 4) (.t 33)), [0, 0], none⟩, ⟨(some 5), (.mov (.k (.one (.d (.int .i64 33))))), [1, 0, 1], none⟩]) .ret) .skip)) j35_1))
def sf35 : SFunc :=
  ⟨2, [(.cell true 3 4), (.tmp 5)], (.seq none (.region false [⟨(some 2), (.box [(.int .i64), (.lst 2)] (.t 0)), [], none⟩, ⟨(some 4), (.alloc [(.int .i64), (.int .i64), (.lst 3)] [(.d (.int .i64 0)),
  (.d (.int .i64 0)), (.nilL 3)]), [], none⟩, ⟨(some 5), (.mov (.k (.one (.d (.int .i64 0))))), [], none⟩]) (.seq (some [1, 2, 4]) (.seq none (.region false [⟨(some 9), (.load true 2 (.t 2)), [],
  none⟩, ⟨(some 10), (.call 17 [(.t 9)]), [0], none⟩, ⟨(some 11), (.inot (.t 10)), [1], none⟩]) (.cond (.t 11) (.seq none (.region false [⟨(some 12), (.build [(.d (.int .i64 0)), (.d (.int .i64 0)),
  (.nilL 3)] []), [], none⟩, ⟨none, (.store 3 (.t 4) (.t 12)), [0, 0], none⟩, ⟨(some 5), (.mov (.k (.one (.d (.int .i64 1))))), [1, 0, 1], none⟩]) .ret) .skip)) j35_0))⟩
theorem c35 : compFunc Tryd.prog [none, some [1, 2, 4], none, none, none, some [4, 6], none, none, none] Tryd.f35 = some sf35 := by kernel_rfl
/-! sortilege/value.Text -/
def j36_1 : SCode :=
  (.region false [⟨(some 19), (.ibin .i64 .add (.t 10) (.k (.one (.d (.int .i64 1))))), [], none⟩, ⟨(some 10), (.mov (.t 19)), [0], none⟩])
def j36_0 : SCode :=
  (.seq (some [1, 3, 8, 9, 10]) (.block 1 (.seq none (.region false [⟨(some 12), (.iaddr 3 (.t 8) (.t 10)), [], none⟩, ⟨(some 13), (.load true 3 (.t 12)), [0], none⟩, ⟨(some 5), (.alloc [(.int .i64),
  (.int .i64), (.lst 3)] [(.d (.int .i64 0)), (.d (.int .i64 0)), (.nilL 3)]), [], none⟩, ⟨none, (.store 3 (.t 5) (.t 13)), [2, 1, 0, 1, 2], none⟩]) (.region false [⟨(some 14), (.mov (.t 3)), [],
  none⟩, ⟨(some 15), (.load true 3 (.t 5)), [], none⟩, ⟨(some 16), (.call 36 [(.t 15)]), [1], none⟩, ⟨(some 17), (.lit 9 1 [(.t 16)]), [2], none⟩, ⟨(some 18), (.app 9 1 16 (.t 14) (.t 17)), [0, 3, 2],
  none⟩, ⟨(some 3), (.mov (.t 18)), [4, 4, 0, 1, 2, 3, 4], none⟩]))) j36_1)
def lb36_0 : SCode :=
  (.seq none (.region false [⟨(some 11), (.ibin .i64 .lss (.t 10) (.t 9)), [], none⟩]) (.seq (some [1, 3, 8, 9, 10]) (.cond (.t 11) .skip (.exit 0)) j36_0))
def j36_3 : SCode :=
  (.seq none (.region false [⟨(some 2), (.mov (.k (.one (.d (.str ⟨#[63]⟩))))), [], none⟩]) .ret)
def j36_2 : SCode :=
  (.seq none (.region false [⟨(some 20), (.mov (.t 3)), [], none⟩, ⟨(some 21), (.call 48 [(.t 20), (.k (.one (.d (.str ⟨#[44, 32]⟩))))]), [0], none⟩, ⟨(some 6), (.mov (.t 21)), [1, 1, 0, 1],
  none⟩]) (.seq (some []) (.seq none (.region false [⟨(some 22), (.faddr 0 (.t 1)), [], none⟩, ⟨(some 23), (.load false 1 (.t 22)), [0], none⟩]) (.block 2 (.seq none (.region false [⟨(some 25),
  (.ibin .i64 .eql (.t 23) (.k (.one (.d (.int .i64 1))))), [], none⟩, ⟨(some 24), (.mov (.t 25)), [0], none⟩]) (.cond (.t 24) (.seq none (.region false [⟨(some 26), (.faddr 1 (.t 1)), [], none⟩,
  ⟨(some 27), (.load false 1 (.t 26)), [0], none⟩, ⟨(some 28), (.ibin .i64 .neq (.t 27) (.k (.one (.d (.int .i64 0))))), [1], none⟩, ⟨(some 29), (.call 62 [(.t 28)]), [2], none⟩, ⟨(some 2),
  (.mov (.t 29)), [3, 3, 0, 1, 2, 3], none⟩]) .ret) (.seq none (.region false [⟨(some 31), (.ibin .i64 .eql (.t 23) (.k (.one (.d (.int .i64 2))))), [], none⟩, ⟨(some 30), (.mov (.t 31)), [0],
  none⟩]) (.cond (.t 30) (.seq none (.region false [⟨(some 32), (.faddr 1 (.t 1)), [], none⟩, ⟨(some 33), (.load false 1 (.t 32)), [0], none⟩, ⟨(some 34), (.call 63 [(.t 33)]), [1], none⟩, ⟨(some 2),
  (.mov (.t 34)), [2, 2, 0, 1, 2], none⟩]) .ret) (.seq none (.region false [⟨(some 36), (.ibin .i64 .eql (.t 23) (.k (.one (.d (.int .i64 3))))), [], none⟩, ⟨(some 35), (.mov (.t 36)), [0],
  none⟩]) (.cond (.t 35) (.seq none (.region false [⟨(some 37), (.mov (.t 6)), [], none⟩, ⟨(some 38), (.sbin .add (.k (.one (.d (.str ⟨#[40]⟩)))) (.t 37)), [0], none⟩, ⟨(some 39),
  (.sbin .add (.t 38) (.k (.one (.d (.str ⟨#[41]⟩))))), [1], none⟩, ⟨(some 2), (.mov (.t 39)), [2, 0, 1, 2], none⟩]) .ret) (.seq none (.region false [⟨(some 41),
  (.ibin .i64 .eql (.t 23) (.k (.one (.d (.int .i64 4))))), [], none⟩, ⟨(some 40), (.mov (.t 41)), [0], none⟩]) (.cond (.t 40) (.seq none (.region false [⟨(some 42), (.mov (.t 6)), [], none⟩,
  ⟨(some 43), (.sbin .add (.k (.one (.d (.str ⟨#[91]⟩)))) (.t 42)), [0], none⟩, ⟨(some 44), (.sbin .add (.t 43) (.k (.one (.d (.str ⟨#[93]⟩))))), [1], none⟩, ⟨(some 2), (.mov (.t 44)), [2, 0, 1, 2],
  none⟩]) .ret) .skip)))))))))) j36_3))
def sf36 : SFunc :=
  ⟨1, [(.tmp 2)], (.seq none (.region false [⟨(some 1), (.box [(.int .i64), (.int .i64), (.lst 3)] (.t 0)), [], none⟩, ⟨(some 2), (.mov (.k (.one (.d (.str ⟨#[]⟩))))), [],
  none⟩]) (.seq none (.region false [⟨(some 3), (.mov (.k (.one (.nilL 1)))), [], none⟩]) (.seq (some [1, 3]) (.seq none (.region false [⟨(some 7), (.faddr 2 (.t 1)), [], none⟩, ⟨(some 8),
  (.load false 1 (.t 7)), [0], none⟩, ⟨(some 9), (.len false (.t 8)), [1], none⟩, ⟨(some 10), (.mov (.k (.one (.d (.int .i64 0))))), [], none⟩]) (.block 0 (.loop [1, 3, 8, 9, 10] lb36_0))) j36_2)))⟩
theorem c36 : compFunc Tryd.prog [none, none, some [1, 3], none, some [1, 3, 8, 9, 10], none, some [1, 3, 8, 9, 10], some [1, 3, 8, 9, 10], none, none, some [], none, none, none, none, none, none, none, none, none, none] Tryd.f36 = some sf36 := by kernel_rfl
/-! sortilege/sortilegeref03.Text -/
def j37_1 : SCode :=
  (.region false [⟨(some 10), (.mov (.t 4)), [], none⟩, ⟨(some 11), (.ibin .i64 .add (.t 10) (.k (.one (.d (.int .i64 1))))), [0], none⟩, ⟨(some 4), (.mov (.t 11)), [1, 0, 1], none⟩])
def j37_0 : SCode :=
  (.seq (some [1, 3, 4]) (.block 1 (.region false [⟨(some 12), (.mov (.t 3)), [], none⟩, ⟨(some 13), (.faddr 2 (.t 1)), [], none⟩, ⟨(some 14), (.load false 1 (.t 13)), [1], none⟩, ⟨(some 15),
  (.mov (.t 4)), [], none⟩, ⟨(some 16), (.iaddr 3 (.t 14) (.t 15)), [2, 3], none⟩, ⟨(some 17), (.load true 3 (.t 16)), [4], none⟩, ⟨(some 18), (.call 37 [(.t 17)]), [5], none⟩, ⟨(some 19),
  (.lit 9 1 [(.t 18)]), [6], none⟩, ⟨(some 20), (.app 9 1 16 (.t 12) (.t 19)), [0, 7, 6], none⟩, ⟨(some 3), (.mov (.t 20)), [8, 8, 0, 1, 2, 3, 4, 5, 6, 7, 8], none⟩])) j37_1)
def lb37_0 : SCode :=
  (.seq (some [1, 3, 4]) (.seq none (.region false [⟨(some 5), (.mov (.t 4)), [], none⟩, ⟨(some 6), (.faddr 2 (.t 1)), [], none⟩, ⟨(some 7), (.load false 1 (.t 6)), [1], none⟩, ⟨(some 8),
  (.len false (.t 7)), [2], none⟩, ⟨(some 9), (.ibin .i64 .lss (.t 5) (.t 8)), [0, 3], none⟩]) (.cond (.t 9) .skip (.exit 0))) j37_0)
def j37_3 : SCode :=
  (.seq none (.region false [⟨(some 2), (.mov (.k (.one (.d (.str ⟨#[102, 97, 108, 115, 101]⟩))))), [], none⟩]) .ret)
def j37_4 : SCode :=
  (.seq none (.region false [⟨(some 2), (.mov (.k (.one (.d (.str ⟨#[63]⟩))))), [], none⟩]) .ret)
def j37_2 : SCode :=
  (.seq (some []) (.seq none (.region false [⟨(some 21), (.faddr 0 (.t 1)), [], none⟩, ⟨(some 22), (.load false 1 (.t 21)), [0], none⟩]) (.block 2 (.seq none (.region false [⟨(some 24),
  (.ibin .i64 .eql (.t 22) (.k (.one (.d (.int .i64 1))))), [], none⟩, ⟨(some 23), (.mov (.t 24)), [0], none⟩]) (.cond (.t 23) (.seq (some []) (.seq none (.region false [⟨(some 25), (.faddr 1 (.t 1)),
  [], none⟩, ⟨(some 26), (.load false 1 (.t 25)), [0], none⟩, ⟨(some 27), (.ibin .i64 .neq (.t 26) (.k (.one (.d (.int .i64 0))))), [1], none⟩]) (.cond (.t 27) (.seq none (.region false [⟨(some 2),
  (.mov (.k (.one (.d (.str ⟨#[116, 114, 117, 101]⟩))))), [], none⟩]) .ret) .skip)) j37_3) (.seq none (.region false [⟨(some 29), (.ibin .i64 .eql (.t 22) (.k (.one (.d (.int .i64 2))))), [], none⟩,
  ⟨(some 28), (.mov (.t 29)), [0], none⟩]) (.cond (.t 28) (.seq none (.region false [⟨(some 30), (.faddr 1 (.t 1)), [], none⟩, ⟨(some 31), (.load false 1 (.t 30)), [0], none⟩, ⟨(some 32),
  (.call 64 [(.t 31)]), [1], none⟩, ⟨(some 2), (.mov (.t 32)), [2, 2, 0, 1, 2], none⟩]) .ret) (.seq none (.region false [⟨(some 34), (.ibin .i64 .eql (.t 22) (.k (.one (.d (.int .i64 3))))), [],
  none⟩, ⟨(some 33), (.mov (.t 34)), [0], none⟩]) (.cond (.t 33) (.seq none (.region false [⟨(some 35), (.mov (.t 3)), [], none⟩, ⟨(some 36), (.call 49 [(.t 35)]), [0], none⟩, ⟨(some 37),
  (.sbin .add (.k (.one (.d (.str ⟨#[40]⟩)))) (.t 36)), [1], none⟩, ⟨(some 38), (.sbin .add (.t 37) (.k (.one (.d (.str ⟨#[41]⟩))))), [2], none⟩, ⟨(some 2), (.mov (.t 38)), [3, 1, 0, 1, 2, 3],
  none⟩]) .ret) (.seq none (.region false [⟨(some 40), (.ibin .i64 .eql (.t 22) (.k (.one (.d (.int .i64 4))))), [], none⟩, ⟨(some 39), (.mov (.t 40)), [0],
  none⟩]) (.cond (.t 39) (.seq none (.region false [⟨(some 41), (.mov (.t 3)), [], none⟩, ⟨(some 42), (.call 49 [(.t 41)]), [0], none⟩, ⟨(some 43),
  (.sbin .add (.k (.one (.d (.str ⟨#[91]⟩)))) (.t 42)), [1], none⟩, ⟨(some 44), (.sbin .add (.t 43) (.k (.one (.d (.str ⟨#[93]⟩))))), [2], none⟩, ⟨(some 2), (.mov (.t 44)), [3, 1, 0, 1, 2, 3],
  none⟩]) .ret) .skip)))))))))) j37_4)
def sf37 : SFunc :=
  ⟨1, [(.tmp 2)], (.seq none (.region false [⟨(some 1), (.box [(.int .i64), (.int .i64), (.lst 3)] (.t 0)), [], none⟩, ⟨(some 2), (.mov (.k (.one (.d (.str ⟨#[]⟩))))), [],
  none⟩]) (.seq none (.region false [⟨(some 3), (.mov (.k (.one (.nilL 1)))), [], none⟩]) (.seq (some [1, 3]) (.seq none (.region false [⟨(some 4), (.mov (.k (.one (.d (.int .i64 0))))), [],
  none⟩]) (.block 0 (.loop [1, 3, 4] lb37_0))) j37_2)))⟩
theorem c37 : compFunc Tryd.prog [none, none, some [1, 3], none, some [1, 3, 4], some [1, 3, 4], none, some [1, 3, 4], some [], none, none, some [], none, none, none, none, none, none, none, none, none, none] Tryd.f37 = some sf37 := by kernel_rfl
/-! sortilege/sortilegelaw03.Alike -/
def j38_2 : SCode :=
  (.region false [⟨(some 32), (.mov (.t 5)), [], none⟩, ⟨(some 33), (.ibin .i64 .add (.t 32) (.k (.one (.d (.int .i64 1))))), [0], none⟩, ⟨(some 5), (.mov (.t 33)), [1, 0, 1], none⟩])
def j38_1 : SCode :=
  (.seq (some [2, 3, 5]) (.block 1 (.seq none (.region true [⟨(some 34), (.faddr 2 (.t 2)), [], none⟩, ⟨(some 35), (.load false 1 (.t 34)), [0], none⟩, ⟨(some 36), (.mov (.t 5)), [], none⟩, ⟨(some 37),
  (.iaddr 3 (.t 35) (.t 36)), [1, 2], none⟩, ⟨(some 38), (.load true 3 (.t 37)), [3], none⟩, ⟨(some 39), (.faddr 2 (.t 3)), [], none⟩, ⟨(some 40), (.load false 1 (.t 39)), [5], none⟩, ⟨(some 41),
  (.mov (.t 5)), [], none⟩, ⟨(some 42), (.iaddr 3 (.t 40) (.t 41)), [6, 7], none⟩, ⟨(some 43), (.load true 3 (.t 42)), [8], none⟩, ⟨(some 44), (.call 38 [(.t 38), (.t 43)]), [4, 9], none⟩, ⟨(some 45),
  (.inot (.t 44)), [10], none⟩]) (.cond (.t 45) (.seq none (.region false [⟨(some 4), (.mov (.k (.one (.d (.bool false))))), [], none⟩]) .ret) .skip))) j38_2)
def lb38_0 : SCode :=
  (.seq (some [2, 3, 5]) (.seq none (.region false [⟨(some 27), (.mov (.t 5)), [], none⟩, ⟨(some 28), (.faddr 2 (.t 2)), [], none⟩, ⟨(some 29), (.load false 1 (.t 28)), [1], none⟩, ⟨(some 30),
  (.len false (.t 29)), [2], none⟩, ⟨(some 31), (.ibin .i64 .lss (.t 27) (.t 30)), [0, 3], none⟩]) (.cond (.t 31) .skip (.exit 0))) j38_1)
def j38_3 : SCode :=
  (.seq none (.region false [⟨(some 4), (.mov (.k (.one (.d (.bool true))))), [], none⟩]) .ret)
def j38_0 : SCode :=
  (.seq (some []) (.seq none (.region false [⟨(some 5), (.mov (.k (.one (.d (.int .i64 0))))), [], none⟩]) (.block 0 (.loop [2, 3, 5] lb38_0))) j38_3)
def sf38 : SFunc :=
  ⟨2, [(.tmp 4)], (.seq none (.region false [⟨(some 2), (.box [(.int .i64), (.int .i64), (.lst 3)] (.t 0)), [], none⟩, ⟨(some 3), (.box [(.int .i64), (.int .i64), (.lst 3)] (.t 1)), [], none⟩,
  ⟨(some 4), (.mov (.k (.one (.d (.bool false))))), [], none⟩]) (.seq (some [2, 3]) (.seq none (.region false [⟨(some 6), (.faddr 0 (.t 2)), [], none⟩, ⟨(some 7), (.load false 1 (.t 6)), [0], none⟩,
  ⟨(some 8), (.faddr 0 (.t 3)), [], none⟩, ⟨(some 9), (.load false 1 (.t 8)), [2], none⟩, ⟨(some 10), (.ibin .i64 .neq (.t 7) (.t 9)), [1, 3], none⟩, ⟨(some 11), (.mov (.t 10)), [4], none⟩,
  ⟨(some 12), (.faddr 1 (.t 2)), [5], (some (5, (11, false)))⟩, ⟨(some 13), (.load false 1 (.t 12)), [6, 5], (some (5, (11, false)))⟩, ⟨(some 14), (.faddr 1 (.t 3)), [5], (some (5, (11, false)))⟩,
  ⟨(some 15), (.load false 1 (.t 14)), [8, 5], (some (5, (11, false)))⟩, ⟨(some 16), (.ibin .i64 .neq (.t 13) (.t 15)), [7, 9, 5], (some (5, (11, false)))⟩, ⟨(some 17),
  (.pick (.t 11) (.k (.one (.d (.bool true)))) (.t 16)), [5, 10], none⟩, ⟨(some 18), (.mov (.t 17)), [11, 5], none⟩, ⟨(some 19), (.faddr 2 (.t 2)), [12], (some (12, (18, false)))⟩, ⟨(some 20),
  (.load false 1 (.t 19)), [13, 12], (some (12, (18, false)))⟩, ⟨(some 21), (.len false (.t 20)), [14, 12], (some (12, (18, false)))⟩, ⟨(some 22), (.faddr 2 (.t 3)), [12], (some (12, (18, false)))⟩,
  ⟨(some 23), (.load false 1 (.t 22)), [16, 12], (some (12, (18, false)))⟩, ⟨(some 24), (.len false (.t 23)), [17, 12], (some (12, (18, false)))⟩, ⟨(some 25), (.ibin .i64 .neq (.t 21) (.t 24)), [15,
  18, 12], (some (12, (18, false)))⟩, ⟨(some 26), (.pick (.t 18) (.k (.one (.d (.bool true)))) (.t 25)), [12, 19], none⟩]) (.cond (.t 26) (.seq none (.region false [⟨(some 4),
  (.mov (.k (.one (.d (.bool false))))), [], none⟩]) .ret) .skip)) j38_0))⟩
theorem c38 : compFunc Tryd.prog [none, some [2, 3], none, none, some [], none, some [2, 3, 5], some [2, 3, 5], none, some [2, 3, 5], none, none, none] Tryd.f38 = some sf38 := by kernel_rfl
/-! sortilege/sortilegelaw03.empty -/
def j39_2 : SCode :=
  (.region false [⟨(some 18), (.mov (.t 3)), [], none⟩, ⟨(some 19), (.ibin .i64 .add (.t 18) (.k (.one (.d (.int .i64 1))))), [0], none⟩, ⟨(some 3), (.mov (.t 19)), [1, 0, 1], none⟩])
def j39_1 : SCode :=
  (.seq (some [1, 3]) (.block 1 (.seq none (.region false [⟨(some 20), (.faddr 2 (.t 1)), [], none⟩, ⟨(some 21), (.load false 1 (.t 20)), [0], none⟩, ⟨(some 22), (.mov (.t 3)), [], none⟩, ⟨(some 23),
  (.iaddr 3 (.t 21) (.t 22)), [1, 2], none⟩, ⟨(some 24), (.load true 3 (.t 23)), [3], none⟩, ⟨(some 25), (.call 39 [(.t 24)]), [4], none⟩]) (.cond (.t 25) (.seq none (.region false [⟨(some 2),
  (.mov (.k (.one (.d (.bool true))))), [], none⟩]) .ret) .skip))) j39_2)
def lb39_0 : SCode :=
  (.seq (some [1, 3]) (.seq none (.region false [⟨(some 13), (.mov (.t 3)), [], none⟩, ⟨(some 14), (.faddr 2 (.t 1)), [], none⟩, ⟨(some 15), (.load false 1 (.t 14)), [1], none⟩, ⟨(some 16),
  (.len false (.t 15)), [2], none⟩, ⟨(some 17), (.ibin .i64 .lss (.t 13) (.t 16)), [0, 3], none⟩]) (.cond (.t 17) .skip (.exit 0))) j39_1)
def j39_3 : SCode :=
  (.seq none (.region false [⟨(some 2), (.mov (.k (.one (.d (.bool false))))), [], none⟩]) .ret)
def j39_0 : SCode :=
  (.seq (some []) (.seq none (.region false [⟨(some 3), (.mov (.k (.one (.d (.int .i64 0))))), [], none⟩]) (.block 0 (.loop [1, 3] lb39_0))) j39_3)
def sf39 : SFunc :=
  ⟨1, [(.tmp 2)], (.seq none (.region false [⟨(some 1), (.box [(.int .i64), (.int .i64), (.lst 3)] (.t 0)), [], none⟩, ⟨(some 2), (.mov (.k (.one (.d (.bool false))))), [],
  none⟩]) (.seq (some [1]) (.seq none (.region false [⟨(some 4), (.faddr 0 (.t 1)), [], none⟩, ⟨(some 5), (.load false 1 (.t 4)), [0], none⟩, ⟨(some 6),
  (.ibin .i64 .eql (.t 5) (.k (.one (.d (.int .i64 4))))), [1], none⟩, ⟨(some 7), (.mov (.t 6)), [2], none⟩, ⟨(some 8), (.faddr 2 (.t 1)), [3], (some (3, (7, true)))⟩, ⟨(some 9),
  (.load false 1 (.t 8)), [4, 3], (some (3, (7, true)))⟩, ⟨(some 10), (.len false (.t 9)), [5, 3], (some (3, (7, true)))⟩, ⟨(some 11), (.ibin .i64 .eql (.t 10) (.k (.one (.d (.int .i64 0))))), [6, 3],
  (some (3, (7, true)))⟩, ⟨(some 12), (.pick (.t 7) (.t 11) (.k (.one (.d (.bool false))))), [3, 7], none⟩]) (.cond (.t 12) (.seq none (.region false [⟨(some 2), (.mov (.k (.one (.d (.bool true))))),
  [], none⟩]) .ret) .skip)) j39_0))⟩
theorem c39 : compFunc Tryd.prog [none, some [1], none, none, some [], none, some [1, 3], some [1, 3], none, some [1, 3], none, none, none] Tryd.f39 = some sf39 := by kernel_rfl
/-! sortilege/sortilegelaw03.list -/
def sf40 : SFunc :=
  ⟨1, [(.cell true 3 2)], (.seq none (.region false [⟨(some 2), (.alloc [(.int .i64), (.int .i64), (.lst 3)] [(.d (.int .i64 0)), (.d (.int .i64 0)), (.nilL 3)]), [],
  none⟩]) (.seq none (.region false [⟨(some 3), (.mov (.t 0)), [], none⟩, ⟨(some 4), (.build [(.d (.int .i64 0)), (.d (.int .i64 0)), (.nilL 3)] [(0, (1, (.k (.one (.d (.int .i64 4)))))), (2, (1,
  (.t 3)))]), [0], none⟩, ⟨none, (.store 3 (.t 2) (.t 4)), [1, 0, 1], none⟩]) .ret))⟩
theorem c40 : compFunc Tryd.prog [none, none] Tryd.f40 = some sf40 := by kernel_rfl
/-! sortilege/sortilegelaw03.typeSize -/
def j41_1 : SCode :=
  (.region false [⟨(some 20), (.mov (.t 7)), [], none⟩, ⟨(some 21), (.ibin .i64 .add (.t 20) (.k (.one (.d (.int .i64 1))))), [0], none⟩, ⟨(some 7), (.mov (.t 21)), [1, 0, 1], none⟩])
def j41_0 : SCode :=
  (.seq (some [1, 2, 3, 7]) (.block 1 (.region false [⟨(some 22), (.faddr 1 (.t 3)), [], none⟩, ⟨(some 23), (.load false 1 (.t 22)), [0], none⟩, ⟨(some 24), (.mov (.t 7)), [], none⟩, ⟨(some 25),
  (.iaddr 2 (.t 23) (.t 24)), [1, 2], none⟩, ⟨(some 26), (.load true 2 (.t 25)), [3], none⟩, ⟨(some 27), (.mov (.t 1)), [], none⟩, ⟨(some 28), (.mov (.t 2)), [], none⟩, ⟨(some 29), (.call 41 [(.t 26),
  (.t 27), (.t 28)]), [4, 5, 6], none⟩, ⟨(some 1), (.mov (.t 29)), [7, 7, 0, 1, 2, 3, 4, 5, 6, 7], none⟩])) j41_1)
def lb41_0 : SCode :=
  (.seq (some [1, 2, 3, 7]) (.seq none (.region false [⟨(some 10), (.mov (.t 7)), [], none⟩, ⟨(some 11), (.faddr 1 (.t 3)), [], none⟩, ⟨(some 12), (.load false 1 (.t 11)), [1], none⟩, ⟨(some 13),
  (.len false (.t 12)), [2], none⟩, ⟨(some 14), (.ibin .i64 .lss (.t 10) (.t 13)), [0, 3], none⟩, ⟨(some 15), (.mov (.t 14)), [4], none⟩, ⟨(some 16), (.mov (.t 1)), [5], (some (5, (15, true)))⟩,
  ⟨(some 17), (.mov (.t 2)), [5], (some (5, (15, true)))⟩, ⟨(some 18), (.ibin .i64 .leq (.t 16) (.t 17)), [6, 7, 5], (some (5, (15, true)))⟩, ⟨(some 19),
  (.pick (.t 15) (.t 18) (.k (.one (.d (.bool false))))), [5, 8], none⟩]) (.cond (.t 19) .skip (.exit 0))) j41_0)
def j41_2 : SCode :=
  (.seq none (.region false [⟨(some 30), (.mov (.t 1)), [], none⟩, ⟨(some 6), (.mov (.t 30)), [0, 0], none⟩]) .ret)
def sf41 : SFunc :=
  ⟨3, [(.tmp 6)], (.seq none (.region false [⟨(some 3), (.box [(.int .i64), (.lst 2)] (.t 0)), [], none⟩, ⟨(some 6), (.mov (.k (.one (.d (.int .i64 0))))), [],
  none⟩]) (.seq none (.region false [⟨(some 8), (.mov (.t 1)), [], none⟩, ⟨(some 9), (.ibin .i64 .add (.t 8) (.k (.one (.d (.int .i64 1))))), [0], none⟩, ⟨(some 1), (.mov (.t 9)), [1, 0, 1],
  none⟩]) (.seq (some [1]) (.seq none (.region false [⟨(some 7), (.mov (.k (.one (.d (.int .i64 0))))), [], none⟩]) (.block 0 (.loop [1, 2, 3, 7] lb41_0))) j41_2)))⟩
theorem c41 : compFunc Tryd.prog [none, none, some [1], none, some [1, 2, 3, 7], some [1, 2, 3, 7], none, some [1, 2, 3, 7], none] Tryd.f41 = some sf41 := by kernel_rfl
/-! sortilege/sortilegelaw03.number -/
def sf42 : SFunc :=
  ⟨1, [(.cell true 3 2)], (.seq none (.region false [⟨(some 2), (.alloc [(.int .i64), (.int .i64), (.lst 3)] [(.d (.int .i64 0)), (.d (.int .i64 0)), (.nilL 3)]), [],
  none⟩]) (.seq none (.region false [⟨(some 3), (.mov (.t 0)), [], none⟩, ⟨(some 4), (.build [(.d (.int .i64 0)), (.d (.int .i64 0)), (.nilL 3)] [(0, (1, (.k (.one (.d (.int .i64 2)))))), (1, (1,
  (.t 3)))]), [0], none⟩, ⟨none, (.store 3 (.t 2) (.t 4)), [1, 0, 1], none⟩]) .ret))⟩
theorem c42 : compFunc Tryd.prog [none, none] Tryd.f42 = some sf42 := by kernel_rfl
/-! sortilege/value.readType -/
def j43_6 : SCode :=
  (.region false [⟨(some 79), (.mov (.t 13)), [], none⟩, ⟨(some 80), (.call 65 [(.t 79), (.k (.one (.d (.str ⟨#[44, 32]⟩))))]), [0], none⟩, ⟨(some 78), (.mov (.t 80)), [1], none⟩, ⟨(some 81),
  (.ext (.t 78) 0), [2], none⟩, ⟨(some 82), (.ext (.t 78) 1), [2], none⟩, ⟨(some 13), (.mov (.t 81)), [3, 1, 0, 1, 2, 3], none⟩, ⟨(some 14), (.mov (.t 82)), [4, 5, 0, 1, 2, 3, 4, 5], none⟩])
def j43_5 : SCode :=
  (.seq none (.region false [⟨(some 63), (.faddr 1 (.t 15)), [], none⟩, ⟨(some 64), (.load false 1 (.t 63)), [0], none⟩, ⟨(some 65), (.load true 2 (.t 16)), [], none⟩, ⟨(some 66), (.lit 24 2 [(.t 65)]),
  [2], none⟩, ⟨(some 67), (.app 24 2 32 (.t 64) (.t 66)), [1, 3], none⟩, ⟨(some 68), (.faddr 1 (.t 15)), [0, 1, 2, 3, 4], none⟩, ⟨none, (.store 1 (.t 68) (.t 67)), [5, 4, 4, 0, 1, 2, 3, 4],
  none⟩]) (.seq (some [1, 4, 12, 13, 15]) (.seq none (.region false [⟨(some 70), (.mov (.t 13)), [], none⟩, ⟨(some 71), (.mov (.t 12)), [], none⟩, ⟨(some 72), (.call 65 [(.t 70), (.t 71)]), [0, 1],
  none⟩, ⟨(some 69), (.mov (.t 72)), [2], none⟩, ⟨(some 73), (.ext (.t 69) 0), [3], none⟩, ⟨(some 74), (.ext (.t 69) 1), [3], none⟩, ⟨(some 17), (.mov (.t 73)), [4, 2, 0, 1, 2, 3, 4], none⟩,
  ⟨(some 18), (.mov (.t 74)), [5, 6, 0, 1, 2, 3, 4, 5, 6], none⟩]) (.seq none (.region false [⟨(some 75), (.mov (.t 18)), [], none⟩]) (.cond (.t 75) (.seq none (.region false [⟨(some 76),
  (.load true 2 (.t 15)), [], none⟩, ⟨(some 77), (.mov (.t 17)), [], none⟩, ⟨none, (.store 2 (.t 4) (.t 76)), [0, 0], none⟩, ⟨(some 5), (.mov (.t 77)), [1, 2, 0, 1, 2], none⟩, ⟨(some 6),
  (.mov (.k (.one (.d (.bool true))))), [3, 0, 1, 2, 3], none⟩]) .ret) .skip))) j43_6))
def j43_4 : SCode :=
  (.block 1 (.seq none (.region false [⟨(some 16), (.alloc [(.int .i64), (.lst 2)] [(.d (.int .i64 0)), (.nilL 2)]), [], none⟩]) (.seq (some [1, 4, 12, 13, 15,
  16]) (.seq none (.region false [⟨(some 54), (.mov (.t 13)), [], none⟩, ⟨(some 55), (.mov (.t 1)), [], none⟩, ⟨(some 56), (.ibin .i64 .sub (.t 55) (.k (.one (.d (.int .i64 1))))), [1], none⟩,
  ⟨(some 57), (.call 43 [(.t 54), (.t 56)]), [0, 2], none⟩, ⟨(some 53), (.mov (.t 57)), [3], none⟩, ⟨(some 58), (.ext (.t 53) 0), [4], none⟩, ⟨(some 59), (.ext (.t 53) 1), [4], none⟩, ⟨(some 60),
  (.ext (.t 53) 2), [4], none⟩, ⟨none, (.store 2 (.t 16) (.t 58)), [5, 3, 0, 1, 2, 3, 4, 5], none⟩, ⟨(some 13), (.mov (.t 59)), [6, 8, 0, 1, 2, 3, 4, 5, 6, 8], none⟩, ⟨(some 14), (.mov (.t 60)), [7,
  9, 0, 1, 2, 3, 4, 5, 6, 7, 8, 9], none⟩]) (.seq none (.region false [⟨(some 61), (.mov (.t 14)), [], none⟩, ⟨(some 62), (.inot (.t 61)), [0], none⟩]) (.cond (.t 62) (.exit 0) .skip))) j43_5)))
def lb43_0 : SCode :=
  (.seq (some [1, 4, 12, 13, 15]) (.seq none (.region false [⟨(some 52), (.mov (.t 14)), [], none⟩]) (.cond (.t 52) .skip (.exit 0))) j43_4)
def j43_7 : SCode :=
  (.seq none (.region false [⟨(some 83), (.build [(.d (.int .i64 0)), (.nilL 2)] []), [], none⟩, ⟨none, (.store 2 (.t 4) (.t 83)), [0, 0], none⟩, ⟨(some 5), (.mov (.k (.one (.d (.str ⟨#[]⟩))))), [1, 0,
  1], none⟩, ⟨(some 6), (.mov (.k (.one (.d (.bool false))))), [2, 0, 1, 2], none⟩]) .ret)
def j43_3 : SCode :=
  (.seq none (.region false [⟨(some 50), (.mov (.t 11)), [], none⟩, ⟨(some 51), (.build [(.d (.int .i64 0)), (.nilL 2)] [(0, (1, (.t 50)))]), [0], none⟩, ⟨(some 15), (.alloc [(.int .i64),
  (.lst 2)] [(.d (.int .i64 0)), (.nilL 2)]), [], none⟩, ⟨none, (.store 2 (.t 15) (.t 51)), [2, 1, 0, 1, 2], none⟩]) (.seq (some [4]) (.block 0 (.loop [1, 4, 12, 13, 14, 15] lb43_0)) j43_7))
def j43_2 : SCode :=
  (.seq none (.region false [⟨(some 11), (.mov (.k (.one (.d (.int .i64 3))))), [], none⟩, ⟨(some 12), (.mov (.k (.one (.d (.str ⟨#[41]⟩))))), [0, 0], none⟩]) (.seq none (.region false [⟨(some 39),
  (.mov (.t 0)), [], none⟩, ⟨(some 40), (.call 65 [(.t 39), (.k (.one (.d (.str ⟨#[40]⟩))))]), [0], none⟩, ⟨(some 38), (.mov (.t 40)), [1], none⟩, ⟨(some 41), (.ext (.t 38) 0), [2], none⟩, ⟨(some 42),
  (.ext (.t 38) 1), [2], none⟩, ⟨(some 13), (.mov (.t 41)), [3, 1, 0, 1, 2, 3], none⟩, ⟨(some 14), (.mov (.t 42)), [4, 5, 0, 1, 2, 3, 4, 5], none⟩]) (.seq (some [1, 4, 11, 12, 13,
  14]) (.seq none (.region false [⟨(some 43), (.mov (.t 14)), [], none⟩, ⟨(some 44), (.inot (.t 43)), [0], none⟩]) (.cond (.t 44) (.seq none (.region false [⟨(some 11),
  (.mov (.k (.one (.d (.int .i64 4))))), [], none⟩, ⟨(some 12), (.mov (.k (.one (.d (.str ⟨#[93]⟩))))), [0, 0], none⟩]) (.region false [⟨(some 46), (.mov (.t 0)), [], none⟩, ⟨(some 47),
  (.call 65 [(.t 46), (.k (.one (.d (.str ⟨#[91]⟩))))]), [0], none⟩, ⟨(some 45), (.mov (.t 47)), [1], none⟩, ⟨(some 48), (.ext (.t 45) 0), [2], none⟩, ⟨(some 49), (.ext (.t 45) 1), [2], none⟩,
  ⟨(some 13), (.mov (.t 48)), [3, 1, 0, 1, 2, 3], none⟩, ⟨(some 14), (.mov (.t 49)), [4, 5, 0, 1, 2, 3, 4, 5], none⟩])) .skip)) j43_3)))
def j43_1 : SCode :=
  (.seq (some [0, 1, 4]) (.seq none (.region false [⟨(some 31), (.mov (.t 0)), [], none⟩, ⟨(some 32), (.call 65 [(.t 31), (.k (.one (.d (.str ⟨#[105, 110, 116]⟩))))]), [0], none⟩, ⟨(some 30),
  (.mov (.t 32)), [1], none⟩, ⟨(some 33), (.ext (.t 30) 0), [2], none⟩, ⟨(some 34), (.ext (.t 30) 1), [2], none⟩, ⟨(some 9), (.mov (.t 33)), [3, 1, 0, 1, 2, 3], none⟩, ⟨(some 10), (.mov (.t 34)), [4,
  5, 0, 1, 2, 3, 4, 5], none⟩]) (.seq none (.region false [⟨(some 35), (.mov (.t 10)), [], none⟩]) (.cond (.t 35) (.seq none (.region false [⟨(some 36), (.build [(.d (.int .i64 0)), (.nilL 2)] [(0,
  (1, (.k (.one (.d (.int .i64 2))))))]), [], none⟩, ⟨(some 37), (.mov (.t 9)), [], none⟩, ⟨none, (.store 2 (.t 4) (.t 36)), [0, 0], none⟩, ⟨(some 5), (.mov (.t 37)), [1, 2, 0, 1, 2], none⟩,
  ⟨(some 6), (.mov (.k (.one (.d (.bool true))))), [3, 0, 1, 2, 3], none⟩]) .ret) .skip))) j43_2)
def j43_0 : SCode :=
  (.seq (some [0, 1, 4]) (.seq none (.region false [⟨(some 23), (.mov (.t 0)), [], none⟩, ⟨(some 24), (.call 65 [(.t 23), (.k (.one (.d (.str ⟨#[98, 111, 111, 108]⟩))))]), [0], none⟩, ⟨(some 22),
  (.mov (.t 24)), [1], none⟩, ⟨(some 25), (.ext (.t 22) 0), [2], none⟩, ⟨(some 26), (.ext (.t 22) 1), [2], none⟩, ⟨(some 7), (.mov (.t 25)), [3, 1, 0, 1, 2, 3], none⟩, ⟨(some 8), (.mov (.t 26)), [4,
  5, 0, 1, 2, 3, 4, 5], none⟩]) (.seq none (.region false [⟨(some 27), (.mov (.t 8)), [], none⟩]) (.cond (.t 27) (.seq none (.region false [⟨(some 28), (.build [(.d (.int .i64 0)), (.nilL 2)] [(0, (1,
  (.k (.one (.d (.int .i64 1))))))]), [], none⟩, ⟨(some 29), (.mov (.t 7)), [], none⟩, ⟨none, (.store 2 (.t 4) (.t 28)), [0, 0], none⟩, ⟨(some 5), (.mov (.t 29)), [1, 2, 0, 1, 2], none⟩, ⟨(some 6),
  (.mov (.k (.one (.d (.bool true))))), [3, 0, 1, 2, 3], none⟩]) .ret) .skip))) j43_1)
def sf43 : SFunc :=
  ⟨2, [(.cell true 2 4), (.tmp 5), (.tmp 6)], (.seq none (.region false [⟨(some 4), (.alloc [(.int .i64), (.lst 2)] [(.d (.int .i64 0)), (.nilL 2)]), [], none⟩, ⟨(some 5),
  (.mov (.k (.one (.d (.str ⟨#[]⟩))))), [], none⟩, ⟨(some 6), (.mov (.k (.one (.d (.bool false))))), [1], none⟩]) (.seq (some [0, 1, 4]) (.seq none (.region false [⟨(some 19), (.mov (.t 1)), [],
  none⟩, ⟨(some 20), (.ibin .i64 .lss (.t 19) (.k (.one (.d (.int .i64 1))))), [0], none⟩]) (.cond (.t 20) (.seq none (.region false [⟨(some 21), (.build [(.d (.int .i64 0)), (.nilL 2)] []), [],
  none⟩, ⟨none, (.store 2 (.t 4) (.t 21)), [0, 0], none⟩, ⟨(some 5), (.mov (.k (.one (.d (.str ⟨#[]⟩))))), [1, 0, 1], none⟩, ⟨(some 6), (.mov (.k (.one (.d (.bool false))))), [2, 0, 1, 2],
  none⟩]) .ret) .skip)) j43_0))⟩
theorem c43 : compFunc Tryd.prog [none, some [0, 1, 4], none, none, some [0, 1, 4], none, none, none, some [0, 1, 4], none, none, none, none, none, some [1, 4, 11, 12, 13, 14], none, none, none, some [4], some [1, 4, 12, 13, 14, 15], some [1, 4, 12, 13, 15], none, none, some [1, 4, 12, 13, 15, 16], none, none, none, some [1, 4, 12, 13, 15], none, none, none, none] Tryd.f43 = some sf43 := by kernel_rfl
/-! sortilege/sortilegeref03.readType -/
def j44_0 : SCode :=
  (.seq none (.region false [⟨(some 80), (.faddr 1 (.t 12)), [], none⟩, ⟨(some 81), (.load false 1 (.t 80)), [0], none⟩, ⟨(some 82), (.load true 2 (.t 13)), [], none⟩, ⟨(some 83), (.lit 24 2 [(.t 82)]),
  [2], none⟩, ⟨(some 84), (.app 24 2 32 (.t 81) (.t 83)), [1, 3], none⟩, ⟨(some 85), (.faddr 1 (.t 12)), [0, 1, 2, 3, 4], none⟩, ⟨none, (.store 1 (.t 85) (.t 84)), [5, 4, 4, 0, 1, 2, 3, 4],
  none⟩]) (.seq none (.region false [⟨(some 86), (.mov (.t 14)), [], none⟩, ⟨(some 1), (.mov (.t 86)), [0, 0], none⟩]) (.seq none (.region false [⟨(some 87), (.mov (.t 0)), [], none⟩, ⟨(some 88),
  (.mov (.t 1)), [], none⟩, ⟨(some 89), (.call 66 [(.t 87), (.t 88), (.k (.one (.d (.str ⟨#[44, 32]⟩))))]), [0, 1], none⟩, ⟨(some 90), (.inot (.t 89)), [2],
  none⟩]) (.cond (.t 90) (.seq none (.region true [⟨(some 91), (.load true 2 (.t 12)), [], none⟩, ⟨(some 92), (.mov (.t 1)), [], none⟩, ⟨(some 93),
  (.ibin .i64 .add (.t 92) (.k (.one (.d (.int .i64 1))))), [1], none⟩, ⟨(some 94), (.mov (.t 0)), [], none⟩, ⟨(some 95), (.mov (.t 1)), [], none⟩, ⟨(some 96), (.call 66 [(.t 94), (.t 95),
  (.k (.one (.d (.str ⟨#[41]⟩))))]), [3, 4], none⟩, ⟨(some 97), (.mov (.t 96)), [5, 5], none⟩, ⟨(some 98), (.faddr 1 (.t 12)), [6], (some (6, (97, true)))⟩, ⟨(some 99), (.load false 1 (.t 98)), [7,
  6], (some (6, (97, true)))⟩, ⟨(some 100), (.len false (.t 99)), [8, 6], (some (6, (97, true)))⟩, ⟨(some 101), (.ibin .i64 .geq (.t 100) (.k (.one (.d (.int .i64 2))))), [9, 6], (some (6, (97,
  true)))⟩, ⟨(some 102), (.pick (.t 97) (.t 101) (.k (.one (.d (.bool false))))), [6, 10], none⟩, ⟨(some 103), (.mov (.t 102)), [11, 6], none⟩, ⟨(some 104), (.faddr 1 (.t 12)), [12], (some (12, (103,
  true)))⟩, ⟨(some 105), (.load false 1 (.t 104)), [13, 12], (some (12, (103, true)))⟩, ⟨(some 106), (.len false (.t 105)), [14, 12], (some (12, (103, true)))⟩, ⟨(some 107),
  (.ibin .i64 .leq (.t 106) (.k (.one (.d (.int .i64 4))))), [15, 12], (some (12, (103, true)))⟩, ⟨(some 108), (.pick (.t 103) (.t 107) (.k (.one (.d (.bool false))))), [12, 16], none⟩, ⟨none,
  (.store 2 (.t 6) (.t 91)), [0, 12, 0], none⟩, ⟨(some 7), (.mov (.t 93)), [2, 18, 0, 1, 2, 18], none⟩, ⟨(some 8), (.mov (.t 108)), [17, 19, 0, 1, 2, 3, 4, 5, 6, 7, 8, 9, 10, 11, 12, 13, 14, 15, 16,
  17, 18, 19], none⟩]) .ret) .skip))))
def j44_1 : SCode :=
  (.region false [⟨(some 66), (.mov (.t 1)), [], none⟩, ⟨(some 67), (.ibin .i64 .add (.t 66) (.k (.one (.d (.int .i64 2))))), [0], none⟩, ⟨(some 1), (.mov (.t 67)), [1, 0, 1], none⟩])
def lb44_0 : SCode :=
  (.seq (some [0, 1, 2, 6, 12]) (.block 2 (.seq none (.region false [⟨(some 69), (.mov (.t 0)), [], none⟩, ⟨(some 70), (.mov (.t 1)), [], none⟩, ⟨(some 71), (.mov (.t 2)), [], none⟩, ⟨(some 72),
  (.ibin .i64 .add (.t 71) (.k (.one (.d (.int .i64 1))))), [2], none⟩, ⟨(some 73), (.call 44 [(.t 69), (.t 70), (.t 72)]), [0, 1, 3], none⟩, ⟨(some 68), (.mov (.t 73)), [4], none⟩, ⟨(some 74),
  (.ext (.t 68) 0), [5], none⟩, ⟨(some 75), (.ext (.t 68) 1), [5], none⟩, ⟨(some 76), (.ext (.t 68) 2), [5], none⟩, ⟨(some 13), (.alloc [(.int .i64), (.lst 2)] [(.d (.int .i64 0)), (.nilL 2)]), [],
  none⟩, ⟨none, (.store 2 (.t 13) (.t 74)), [9, 6, 4, 0, 1, 2, 3, 4, 5, 6, 9], none⟩, ⟨(some 14), (.mov (.t 75)), [7, 10, 0, 1, 2, 3, 4, 5, 6, 7, 9, 10], none⟩, ⟨(some 15), (.mov (.t 76)), [8, 11, 0,
  1, 2, 3, 4, 5, 6, 7, 8, 9, 10, 11], none⟩]) (.seq (some [0, 2, 6, 12, 13, 14]) (.seq none (.region false [⟨(some 77), (.mov (.t 15)), [], none⟩, ⟨(some 78), (.inot (.t 77)), [0],
  none⟩]) (.cond (.t 78) (.seq none (.region false [⟨(some 79), (.build [(.d (.int .i64 0)), (.nilL 2)] []), [], none⟩, ⟨none, (.store 2 (.t 6) (.t 79)), [0, 0], none⟩, ⟨(some 7),
  (.mov (.k (.one (.d (.int .i64 0))))), [1, 0, 1], none⟩, ⟨(some 8), (.mov (.k (.one (.d (.bool false))))), [2, 0, 1, 2], none⟩]) .ret) .skip)) j44_0))) j44_1)
def j44_2 : SCode :=
  (.seq none (.region false [⟨(some 109), (.build [(.d (.int .i64 0)), (.nilL 2)] []), [], none⟩, ⟨none, (.store 2 (.t 6) (.t 109)), [0, 0], none⟩, ⟨(some 7), (.mov (.k (.one (.d (.int .i64 0))))), [1,
  0, 1], none⟩, ⟨(some 8), (.mov (.k (.one (.d (.bool false))))), [2, 0, 1, 2], none⟩]) .ret)
def sf44 : SFunc :=
  ⟨3, [(.cell true 2 6), (.tmp 7), (.tmp 8)], (.seq none (.region false [⟨(some 6), (.alloc [(.int .i64), (.lst 2)] [(.d (.int .i64 0)), (.nilL 2)]), [], none⟩, ⟨(some 7),
  (.mov (.k (.one (.d (.int .i64 0))))), [], none⟩, ⟨(some 8), (.mov (.k (.one (.d (.bool false))))), [1], none⟩]) (.seq (some [6]) (.block 0 (.seq none (.region false [⟨(some 17), (.mov (.t 2)), [],
  none⟩, ⟨(some 18), (.ibin .i64 .gtr (.t 17) (.k (.one (.d (.int .i64 40))))), [0], none⟩, ⟨(some 16), (.mov (.t 18)), [1], none⟩]) (.cond (.t 16) (.seq none (.region false [⟨(some 19),
  (.build [(.d (.int .i64 0)), (.nilL 2)] []), [], none⟩, ⟨none, (.store 2 (.t 6) (.t 19)), [0, 0], none⟩, ⟨(some 7), (.mov (.k (.one (.d (.int .i64 0))))), [1, 0, 1], none⟩, ⟨(some 8),
  (.mov (.k (.one (.d (.bool false))))), [2, 0, 1, 2], none⟩]) .ret) (.seq none (.region false [⟨(some 21), (.mov (.t 0)), [], none⟩, ⟨(some 22), (.mov (.t 1)), [], none⟩, ⟨(some 23),
  (.call 66 [(.t 21), (.t 22), (.k (.one (.d (.str ⟨#[98, 111, 111, 108]⟩))))]), [0, 1], none⟩, ⟨(some 20), (.mov (.t 23)), [2, 2], none⟩]) (.cond (.t 20) (.seq none (.region false [⟨(some 24),
  (.build [(.d (.int .i64 0)), (.nilL 2)] [(0, (1, (.k (.one (.d (.int .i64 1))))))]), [], none⟩, ⟨(some 25), (.mov (.t 1)), [], none⟩, ⟨(some 26),
  (.ibin .i64 .add (.t 25) (.k (.one (.d (.int .i64 4))))), [1], none⟩, ⟨none, (.store 2 (.t 6) (.t 24)), [0, 0], none⟩, ⟨(some 7), (.mov (.t 26)), [2, 3, 0, 1, 2, 3], none⟩, ⟨(some 8),
  (.mov (.k (.one (.d (.bool true))))), [4, 0, 1, 2, 3, 4], none⟩]) .ret) (.seq none (.region false [⟨(some 28), (.mov (.t 0)), [], none⟩, ⟨(some 29), (.mov (.t 1)), [], none⟩, ⟨(some 30),
  (.call 66 [(.t 28), (.t 29), (.k (.one (.d (.str ⟨#[105, 110, 116]⟩))))]), [0, 1], none⟩, ⟨(some 27), (.mov (.t 30)), [2, 2], none⟩]) (.cond (.t 27) (.seq none (.region false [⟨(some 31),
  (.build [(.d (.int .i64 0)), (.nilL 2)] [(0, (1, (.k (.one (.d (.int .i64 2))))))]), [], none⟩, ⟨(some 32), (.mov (.t 1)), [], none⟩, ⟨(some 33),
  (.ibin .i64 .add (.t 32) (.k (.one (.d (.int .i64 3))))), [1], none⟩, ⟨none, (.store 2 (.t 6) (.t 31)), [0, 0], none⟩, ⟨(some 7), (.mov (.t 33)), [2, 3, 0, 1, 2, 3], none⟩, ⟨(some 8),
  (.mov (.k (.one (.d (.bool true))))), [4, 0, 1, 2, 3, 4], none⟩]) .ret) (.seq none (.region false [⟨(some 35), (.mov (.t 0)), [], none⟩, ⟨(some 36), (.mov (.t 1)), [], none⟩, ⟨(some 37),
  (.call 66 [(.t 35), (.t 36), (.k (.one (.d (.str ⟨#[91]⟩))))]), [0, 1], none⟩, ⟨(some 34), (.mov (.t 37)), [2, 2], none⟩]) (.cond (.t 34) (.seq none (.region false [⟨(some 39), (.mov (.t 0)), [],
  none⟩, ⟨(some 40), (.mov (.t 1)), [], none⟩, ⟨(some 41), (.ibin .i64 .add (.t 40) (.k (.one (.d (.int .i64 1))))), [1], none⟩, ⟨(some 42), (.mov (.t 2)), [], none⟩, ⟨(some 43),
  (.ibin .i64 .add (.t 42) (.k (.one (.d (.int .i64 1))))), [3], none⟩, ⟨(some 44), (.call 44 [(.t 39), (.t 41), (.t 43)]), [0, 2, 4], none⟩, ⟨(some 38), (.mov (.t 44)), [5], none⟩, ⟨(some 45),
  (.ext (.t 38) 0), [6], none⟩, ⟨(some 46), (.ext (.t 38) 1), [6], none⟩, ⟨(some 47), (.ext (.t 38) 2), [6], none⟩, ⟨(some 9), (.alloc [(.int .i64), (.lst 2)] [(.d (.int .i64 0)), (.nilL 2)]), [],
  none⟩, ⟨none, (.store 2 (.t 9) (.t 45)), [10, 7, 5, 0, 1, 2, 3, 4, 5, 6, 7, 10], none⟩, ⟨(some 10), (.mov (.t 46)), [8, 11, 0, 1, 2, 3, 4, 5, 6, 7, 8, 10, 11], none⟩, ⟨(some 11), (.mov (.t 47)), [9,
  12, 0, 1, 2, 3, 4, 5, 6, 7, 8, 9, 10, 11, 12], none⟩]) (.seq none (.region true [⟨(some 48), (.load true 2 (.t 9)), [], none⟩, ⟨(some 49), (.lit 24 2 [(.t 48)]), [0], none⟩, ⟨(some 50),
  (.build [(.d (.int .i64 0)), (.nilL 2)] [(0, (1, (.k (.one (.d (.int .i64 4)))))), (1, (1, (.t 49)))]), [1], none⟩, ⟨(some 51), (.mov (.t 10)), [], none⟩, ⟨(some 52),
  (.ibin .i64 .add (.t 51) (.k (.one (.d (.int .i64 1))))), [3], none⟩, ⟨(some 53), (.mov (.t 11)), [], none⟩, ⟨(some 54), (.mov (.t 53)), [5], none⟩, ⟨(some 55), (.mov (.t 0)), [6], (some (6, (54,
  true)))⟩, ⟨(some 56), (.mov (.t 10)), [6], (some (6, (54, true)))⟩, ⟨(some 57), (.call 66 [(.t 55), (.t 56), (.k (.one (.d (.str ⟨#[93]⟩))))]), [7, 8, 6, 6], (some (6, (54, true)))⟩, ⟨(some 58),
  (.pick (.t 54) (.t 57) (.k (.one (.d (.bool false))))), [6, 9], none⟩, ⟨none, (.store 2 (.t 6) (.t 50)), [2, 9, 0, 1, 2], none⟩, ⟨(some 7), (.mov (.t 52)), [4, 11, 0, 1, 2, 3, 4, 11], none⟩,
  ⟨(some 8), (.mov (.t 58)), [10, 12, 0, 1, 2, 3, 4, 5, 6, 7, 8, 9, 10, 11, 12], none⟩]) .ret)) (.seq none (.region false [⟨(some 60), (.mov (.t 0)), [], none⟩, ⟨(some 61), (.mov (.t 1)), [], none⟩,
  ⟨(some 62), (.call 66 [(.t 60), (.t 61), (.k (.one (.d (.str ⟨#[40]⟩))))]), [0, 1], none⟩, ⟨(some 59), (.mov (.t 62)), [2, 2], none⟩]) (.cond (.t 59) (.seq none (.region false [⟨(some 63),
  (.build [(.d (.int .i64 0)), (.nilL 2)] [(0, (1, (.k (.one (.d (.int .i64 3))))))]), [], none⟩, ⟨(some 12), (.alloc [(.int .i64), (.lst 2)] [(.d (.int .i64 0)), (.nilL 2)]), [], none⟩, ⟨none,
  (.store 2 (.t 12) (.t 63)), [1, 0, 0, 1], none⟩]) (.seq none (.region false [⟨(some 64), (.mov (.t 1)), [], none⟩, ⟨(some 65), (.ibin .i64 .add (.t 64) (.k (.one (.d (.int .i64 1))))), [0], none⟩,
  ⟨(some 1), (.mov (.t 65)), [1, 0, 1], none⟩]) (.block 1 (.loop [0, 1, 2, 6, 12] lb44_0)))) .skip))))))))))) j44_2))⟩
theorem c44 : compFunc Tryd.prog [none, some [6], none, none, none, none, none, none, none, none, none, none, none, none, some [0, 1, 2, 6, 12], some [0, 1, 2, 6, 12], none, some [0, 2, 6, 12, 13, 14], none, none, none, none, none, none, none] Tryd.f44 = some sf44 := by kernel_rfl
/-! sortilege/value.deep -/
def j45_1 : SCode :=
  (.cond (.t 9) (.seq none (.region false [⟨(some 12), (.faddr 1 (.t 2)), [], none⟩, ⟨(some 13), (.load false 1 (.t 12)), [0], none⟩, ⟨(some 14), (.len false (.t 13)), [1], none⟩, ⟨(some 15),
  (.ibin .i64 .eql (.t 14) (.k (.one (.d (.int .i64 0))))), [2], none⟩, ⟨(some 4), (.mov (.t 15)), [3, 0, 1, 2, 3], none⟩]) .ret) (.seq none (.region false [⟨(some 17),
  (.ibin .i64 .eql (.t 8) (.k (.one (.d (.int .i64 3))))), [], none⟩, ⟨(some 16), (.mov (.t 17)), [0], none⟩]) (.cond (.t 16) (.seq none (.region false [⟨(some 18), (.faddr 1 (.t 2)), [], none⟩,
  ⟨(some 19), (.load false 1 (.t 18)), [0], none⟩, ⟨(some 20), (.len false (.t 19)), [1], none⟩, ⟨(some 21), (.ibin .i64 .lss (.t 20) (.k (.one (.d (.int .i64 2))))), [2], none⟩, ⟨(some 22),
  (.mov (.t 21)), [3], none⟩, ⟨(some 23), (.faddr 1 (.t 2)), [4], (some (4, (22, false)))⟩, ⟨(some 24), (.load false 1 (.t 23)), [5, 4], (some (4, (22, false)))⟩, ⟨(some 25), (.len false (.t 24)), [6,
  4], (some (4, (22, false)))⟩, ⟨(some 26), (.ibin .i64 .gtr (.t 25) (.k (.one (.d (.int .i64 4))))), [7, 4], (some (4, (22, false)))⟩, ⟨(some 27),
  (.pick (.t 22) (.k (.one (.d (.bool true)))) (.t 26)), [4, 8], none⟩]) (.cond (.t 27) (.seq none (.region false [⟨(some 4), (.mov (.k (.one (.d (.bool false))))), [],
  none⟩]) .ret) .skip)) (.seq none (.region false [⟨(some 29), (.ibin .i64 .eql (.t 8) (.k (.one (.d (.int .i64 4))))), [], none⟩, ⟨(some 28), (.mov (.t 29)), [0],
  none⟩]) (.cond (.t 28) (.seq none (.region false [⟨(some 30), (.faddr 1 (.t 2)), [], none⟩, ⟨(some 31), (.load false 1 (.t 30)), [0], none⟩, ⟨(some 32), (.len false (.t 31)), [1], none⟩, ⟨(some 33),
  (.ibin .i64 .neq (.t 32) (.k (.one (.d (.int .i64 1))))), [2], none⟩]) (.cond (.t 33) (.seq none (.region false [⟨(some 4), (.mov (.k (.one (.d (.bool false))))), [],
  none⟩]) .ret) .skip)) (.seq none (.region false [⟨(some 4), (.mov (.k (.one (.d (.bool false))))), [], none⟩]) .ret))))))
def j45_2 : SCode :=
  (.seq none (.region false [⟨(some 34), (.faddr 1 (.t 2)), [], none⟩, ⟨(some 35), (.load false 1 (.t 34)), [0], none⟩, ⟨(some 36), (.mkF 68 [(.t 3)]), [], none⟩, ⟨(some 37), (.call 67 [(.t 35),
  (.t 36)]), [1, 2], none⟩, ⟨(some 38), (.inot (.t 37)), [3], none⟩, ⟨(some 4), (.mov (.t 38)), [4, 3, 0, 1, 2, 3, 4], none⟩]) .ret)
def j45_0 : SCode :=
  (.seq (some [2, 3]) (.seq none (.region false [⟨(some 7), (.faddr 0 (.t 2)), [], none⟩, ⟨(some 8), (.load false 1 (.t 7)), [0], none⟩]) (.block 0 (.seq (some [2, 3, 8,
  9]) (.seq none (.region false [⟨(some 10), (.ibin .i64 .eql (.t 8) (.k (.one (.d (.int .i64 1))))), [], none⟩, ⟨(some 9), (.mov (.t 10)), [0], none⟩]) (.cond (.t 9) .skip (.region false [⟨(some 11),
  (.ibin .i64 .eql (.t 8) (.k (.one (.d (.int .i64 2))))), [], none⟩, ⟨(some 9), (.mov (.t 11)), [0], none⟩]))) j45_1))) j45_2)
def sf45 : SFunc :=
  ⟨2, [(.tmp 4)], (.seq none (.region false [⟨(some 2), (.box [(.int .i64), (.lst 2)] (.t 0)), [], none⟩, ⟨(some 3), (.box [(.int .i64)] (.t 1)), [], none⟩, ⟨(some 4),
  (.mov (.k (.one (.d (.bool false))))), [], none⟩]) (.seq (some [2, 3]) (.seq none (.region false [⟨(some 5), (.load false 1 (.t 3)), [], none⟩, ⟨(some 6),
  (.ibin .i64 .lss (.t 5) (.k (.one (.d (.int .i64 1))))), [0], none⟩]) (.cond (.t 6) (.seq none (.region false [⟨(some 4), (.mov (.k (.one (.d (.bool false))))), [], none⟩]) .ret) .skip)) j45_0))⟩
theorem c45 : compFunc Tryd.prog [none, some [2, 3], none, none, some [2, 3], none, some [2, 3, 8, 9], none, none, none, none, none, none, none, none, none, none] Tryd.f45 = some sf45 := by kernel_rfl
/-! sortilege/sortilegeref03.typed -/
def j46_2 : SCode :=
  (.region false [⟨(some 54), (.mov (.t 7)), [], none⟩, ⟨(some 55), (.ibin .i64 .add (.t 54) (.k (.one (.d (.int .i64 1))))), [0], none⟩, ⟨(some 7), (.mov (.t 55)), [1, 0, 1], none⟩])
def j46_1 : SCode :=
  (.seq (some [1, 2, 5, 7]) (.block 1 (.seq none (.region false [⟨(some 56), (.faddr 1 (.t 2)), [], none⟩, ⟨(some 57), (.load false 1 (.t 56)), [0], none⟩, ⟨(some 58), (.mov (.t 7)), [], none⟩,
  ⟨(some 59), (.iaddr 2 (.t 57) (.t 58)), [1, 2], none⟩, ⟨(some 60), (.load true 2 (.t 59)), [3], none⟩, ⟨(some 61), (.mov (.t 1)), [], none⟩, ⟨(some 62),
  (.ibin .i64 .add (.t 61) (.k (.one (.d (.int .i64 1))))), [5], none⟩, ⟨(some 63), (.call 46 [(.t 60), (.t 62)]), [4, 6], none⟩, ⟨(some 64), (.inot (.t 63)), [7],
  none⟩]) (.cond (.t 64) (.seq none (.region false [⟨(some 4), (.mov (.k (.one (.d (.bool false))))), [], none⟩]) .ret) .skip))) j46_2)
def lb46_0 : SCode :=
  (.seq (some [1, 2, 5, 7]) (.seq none (.region false [⟨(some 51), (.mov (.t 7)), [], none⟩, ⟨(some 52), (.mov (.t 5)), [], none⟩, ⟨(some 53), (.ibin .i64 .lss (.t 51) (.t 52)), [0, 1],
  none⟩]) (.cond (.t 53) .skip (.exit 0))) j46_1)
def j46_3 : SCode :=
  (.seq none (.region false [⟨(some 4), (.mov (.k (.one (.d (.bool true))))), [], none⟩]) .ret)
def j46_0 : SCode :=
  (.seq (some []) (.seq none (.region false [⟨(some 7), (.mov (.k (.one (.d (.int .i64 0))))), [], none⟩]) (.block 0 (.loop [1, 2, 5, 7] lb46_0))) j46_3)
def sf46 : SFunc :=
  ⟨2, [(.tmp 4)], (.seq none (.region false [⟨(some 2), (.box [(.int .i64), (.lst 2)] (.t 0)), [], none⟩, ⟨(some 4), (.mov (.k (.one (.d (.bool false))))), [],
  none⟩]) (.seq none (.region false [⟨(some 8), (.faddr 1 (.t 2)), [], none⟩, ⟨(some 9), (.load false 1 (.t 8)), [0], none⟩, ⟨(some 10), (.len false (.t 9)), [1], none⟩, ⟨(some 5), (.mov (.t 10)), [2,
  0, 1, 2], none⟩]) (.seq none (.region false [⟨(some 11), (.faddr 0 (.t 2)), [], none⟩, ⟨(some 12), (.load false 1 (.t 11)), [0], none⟩, ⟨(some 13),
  (.ibin .i64 .eql (.t 12) (.k (.one (.d (.int .i64 1))))), [1], none⟩, ⟨(some 14), (.mov (.t 13)), [2], none⟩, ⟨(some 15), (.faddr 0 (.t 2)), [3], (some (3, (14, false)))⟩, ⟨(some 16),
  (.load false 1 (.t 15)), [4, 3], (some (3, (14, false)))⟩, ⟨(some 17), (.ibin .i64 .eql (.t 16) (.k (.one (.d (.int .i64 2))))), [5, 3], (some (3, (14, false)))⟩, ⟨(some 18),
  (.pick (.t 14) (.k (.one (.d (.bool true)))) (.t 17)), [3, 6], none⟩, ⟨(some 19), (.mov (.t 18)), [7, 3], none⟩, ⟨(some 20), (.mov (.t 5)), [8], (some (8, (19, true)))⟩, ⟨(some 21),
  (.ibin .i64 .eql (.t 20) (.k (.one (.d (.int .i64 0))))), [9, 8], (some (8, (19, true)))⟩, ⟨(some 22), (.pick (.t 19) (.t 21) (.k (.one (.d (.bool false))))), [8, 10], none⟩, ⟨(some 23),
  (.mov (.t 22)), [11, 8], none⟩, ⟨(some 24), (.faddr 0 (.t 2)), [12], (some (12, (23, false)))⟩, ⟨(some 25), (.load false 1 (.t 24)), [13, 12], (some (12, (23, false)))⟩, ⟨(some 26),
  (.ibin .i64 .eql (.t 25) (.k (.one (.d (.int .i64 3))))), [14, 12], (some (12, (23, false)))⟩, ⟨(some 27), (.mov (.t 26)), [15, 12, 12], (some (12, (23, false)))⟩, ⟨(some 28), (.mov (.t 5)), [16],
  (some (16, (27, true)))⟩, ⟨(some 29), (.ibin .i64 .geq (.t 28) (.k (.one (.d (.int .i64 2))))), [17, 16], (some (16, (27, true)))⟩, ⟨(some 30),
  (.pick (.t 27) (.t 29) (.k (.one (.d (.bool false))))), [16, 18, 12], (some (12, (23, false)))⟩, ⟨(some 31), (.mov (.t 30)), [19, 16, 12], (some (12, (23, false)))⟩, ⟨(some 32), (.mov (.t 5)), [20],
  (some (20, (31, true)))⟩, ⟨(some 33), (.ibin .i64 .leq (.t 32) (.k (.one (.d (.int .i64 4))))), [21, 20], (some (20, (31, true)))⟩, ⟨(some 34),
  (.pick (.t 31) (.t 33) (.k (.one (.d (.bool false))))), [20, 22, 12], (some (12, (23, false)))⟩, ⟨(some 35), (.pick (.t 23) (.k (.one (.d (.bool true)))) (.t 34)), [12, 23], none⟩, ⟨(some 36),
  (.mov (.t 35)), [24, 20], none⟩, ⟨(some 37), (.faddr 0 (.t 2)), [25], (some (25, (36, false)))⟩, ⟨(some 38), (.load false 1 (.t 37)), [26, 25], (some (25, (36, false)))⟩, ⟨(some 39),
  (.ibin .i64 .eql (.t 38) (.k (.one (.d (.int .i64 4))))), [27, 25], (some (25, (36, false)))⟩, ⟨(some 40), (.mov (.t 39)), [28, 25, 25], (some (25, (36, false)))⟩, ⟨(some 41), (.mov (.t 5)), [29],
  (some (29, (40, true)))⟩, ⟨(some 42), (.ibin .i64 .eql (.t 41) (.k (.one (.d (.int .i64 1))))), [30, 29], (some (29, (40, true)))⟩, ⟨(some 43),
  (.pick (.t 40) (.t 42) (.k (.one (.d (.bool false))))), [29, 31, 25], (some (25, (36, false)))⟩, ⟨(some 44), (.pick (.t 36) (.k (.one (.d (.bool true)))) (.t 43)), [25, 32], none⟩, ⟨(some 6),
  (.mov (.t 44)), [33, 29, 0, 1, 2, 3, 4, 5, 6, 7, 8, 9, 10, 11, 12, 13, 14, 15, 16, 17, 18, 19, 20, 21, 22, 23, 24, 25, 26, 27, 28, 29, 30, 31, 32, 33], none⟩]) (.seq (some [1, 2,
  5]) (.seq none (.region false [⟨(some 45), (.mov (.t 6)), [], none⟩, ⟨(some 46), (.inot (.t 45)), [0], none⟩, ⟨(some 47), (.mov (.t 46)), [1], none⟩, ⟨(some 48), (.mov (.t 1)), [2], (some (2, (47,
  false)))⟩, ⟨(some 49), (.ibin .i64 .gtr (.t 48) (.k (.one (.d (.int .i64 40))))), [3, 2], (some (2, (47, false)))⟩, ⟨(some 50), (.pick (.t 47) (.k (.one (.d (.bool true)))) (.t 49)), [2, 4],
  none⟩]) (.cond (.t 50) (.seq none (.region false [⟨(some 4), (.mov (.k (.one (.d (.bool false))))), [], none⟩]) .ret) .skip)) j46_0))))⟩
theorem c46 : compFunc Tryd.prog [none, none, none, some [1, 2, 5], none, none, some [], none, some [1, 2, 5, 7], some [1, 2, 5, 7], none, some [1, 2, 5, 7], none, none, none] Tryd.f46 = some sf46 := by kernel_rfl
/-! slices.EqualFunc[[]sortilege/api.Type,[]sortilege/api.Type,sortilege/api.Type,sortilege/api.Type] -/
def j47_2 : SCode :=
  (.region false [⟨(some 31), (.ibin .i64 .add (.t 17) (.k (.one (.d (.int .i64 1))))), [], none⟩, ⟨(some 17), (.mov (.t 31)), [0], none⟩])
def j47_1 : SCode :=
  (.seq (some [1, 2, 15, 16, 17]) (.block 1 (.seq none (.region false [⟨(some 19), (.mov (.t 17)), [], none⟩, ⟨(some 20), (.iaddr 2 (.t 15) (.t 17)), [], none⟩, ⟨(some 21), (.load true 2 (.t 20)), [1],
  none⟩, ⟨(some 8), (.alloc [(.int .i64), (.lst 2)] [(.d (.int .i64 0)), (.nilL 2)]), [], none⟩, ⟨(some 7), (.mov (.t 19)), [0, 0, 1, 2, 3], none⟩, ⟨none, (.store 2 (.t 8) (.t 21)), [3, 2, 4, 0, 1, 2,
  3, 4], none⟩]) (.seq none (.region false [⟨(some 22), (.mov (.t 1)), [], none⟩, ⟨(some 23), (.mov (.t 7)), [], none⟩, ⟨(some 24), (.iaddr 2 (.t 22) (.t 23)), [0, 1], none⟩, ⟨(some 25),
  (.load true 2 (.t 24)), [2], none⟩, ⟨(some 9), (.alloc [(.int .i64), (.lst 2)] [(.d (.int .i64 0)), (.nilL 2)]), [], none⟩, ⟨none, (.store 2 (.t 9) (.t 25)), [4, 3, 0, 1, 2, 3, 4],
  none⟩]) (.seq none (.region false [⟨(some 26), (.mov (.t 2)), [], none⟩, ⟨(some 27), (.load true 2 (.t 8)), [], none⟩, ⟨(some 28), (.load true 2 (.t 9)), [], none⟩, ⟨(some 29),
  (.callv (.t 26) [(.t 27), (.t 28)]), [0, 1, 2], none⟩, ⟨(some 30), (.inot (.t 29)), [3], none⟩]) (.cond (.t 30) (.seq none (.region false [⟨(some 6), (.mov (.k (.one (.d (.bool false))))), [],
  none⟩]) .ret) .skip))))) j47_2)
def lb47_0 : SCode :=
  (.seq none (.region false [⟨(some 18), (.ibin .i64 .lss (.t 17) (.t 16)), [], none⟩]) (.seq (some [1, 2, 15, 16, 17]) (.cond (.t 18) .skip (.exit 0)) j47_1))
def j47_3 : SCode :=
  (.seq none (.region false [⟨(some 6), (.mov (.k (.one (.d (.bool true))))), [], none⟩]) .ret)
def j47_0 : SCode :=
  (.seq (some []) (.seq none (.region false [⟨(some 15), (.mov (.t 0)), [], none⟩, ⟨(some 16), (.len false (.t 15)), [0], none⟩, ⟨(some 17), (.mov (.k (.one (.d (.int .i64 0))))), [],
  none⟩]) (.block 0 (.loop [1, 2, 15, 16, 17] lb47_0))) j47_3)
def sf47 : SFunc :=
  ⟨3, [(.tmp 6)], (.seq none (.region false [⟨(some 6), (.mov (.k (.one (.d (.bool false))))), [], none⟩]) (.seq (some [0, 1, 2]) (.seq none (.region false [⟨(some 10), (.mov (.t 0)), [], none⟩,
  ⟨(some 11), (.len false (.t 10)), [0], none⟩, ⟨(some 12), (.mov (.t 1)), [], none⟩, ⟨(some 13), (.len false (.t 12)), [2], none⟩, ⟨(some 14), (.ibin .i64 .neq (.t 11) (.t 13)), [1, 3],
  none⟩]) (.cond (.t 14) (.seq none (.region false [⟨(some 6), (.mov (.k (.one (.d (.bool false))))), [], none⟩]) .ret) .skip)) j47_0))⟩
theorem c47 : compFunc Tryd.prog [none, some [0, 1, 2], none, none, some [], none, some [1, 2, 15, 16, 17], none, some [1, 2, 15, 16, 17], some [1, 2, 15, 16, 17], none, none, none, none, none] Tryd.f47 = some sf47 := by kernel_rfl
/-! strings.Join -/
def j48_1 : SCode :=
  (.region false [⟨(some 31), (.mov (.t 5)), [], none⟩, ⟨(some 32), (.mov (.t 1)), [], none⟩, ⟨(some 33), (.len true (.t 32)), [1], none⟩, ⟨(some 34), (.mov (.t 0)), [], none⟩, ⟨(some 35),
  (.len false (.t 34)), [3], none⟩, ⟨(some 36), (.ibin .i64 .sub (.t 35) (.k (.one (.d (.int .i64 1))))), [4], none⟩, ⟨(some 37), (.ibin .i64 .mul (.t 33) (.t 36)), [2, 5], none⟩, ⟨(some 38),
  (.ibin .i64 .add (.t 31) (.t 37)), [0, 6], none⟩, ⟨(some 5), (.mov (.t 38)), [7, 0, 1, 2, 3, 4, 5, 6, 7], none⟩])
def j48_4 : SCode :=
  (.region false [⟨(some 51), (.mov (.t 5)), [], none⟩, ⟨(some 52), (.mov (.t 7)), [], none⟩, ⟨(some 53), (.len true (.t 52)), [1], none⟩, ⟨(some 54), (.ibin .i64 .add (.t 51) (.t 53)), [0, 2], none⟩,
  ⟨(some 5), (.mov (.t 54)), [3, 0, 1, 2, 3], none⟩])
def j48_5 : SCode :=
  (.region false [⟨(some 55), (.ibin .i64 .add (.t 41) (.k (.one (.d (.int .i64 1))))), [], none⟩, ⟨(some 41), (.mov (.t 55)), [0], none⟩])
def j48_3 : SCode :=
  (.seq (some [0, 1, 5, 39, 40, 41]) (.block 2 (.seq none (.region false [⟨(some 43), (.iaddr 1 (.t 39) (.t 41)), [], none⟩, ⟨(some 44), (.load false 1 (.t 43)), [0], none⟩, ⟨(some 7), (.mov (.t 44)),
  [1, 0, 1], none⟩]) (.seq (some [0, 1, 5, 7, 39, 40, 41]) (.seq none (.region false [⟨(some 45), (.mov (.t 7)), [], none⟩, ⟨(some 46), (.len true (.t 45)), [0], none⟩, ⟨(some 47), (.mov (.t 5)), [],
  none⟩, ⟨(some 48), (.ibin .i64 .sub (.k (.one (.d (.int .i64 9223372036854775807)))) (.t 47)), [2], none⟩, ⟨(some 49), (.ibin .i64 .gtr (.t 46) (.t 48)), [1, 3],
  none⟩]) (.cond (.t 49) (.region false [⟨(some 50), (.mkI 9 (.k (.one (.d (.str ⟨#[115, 116, 114, 105, 110, 103, 115, 58, 32, 74, 111, 105, 110, 32, 111, 117, 116, 112, 117, 116, 32, 108, 101, 110,
  103, 116, 104, 32, 111, 118, 101, 114, 102, 108, 111, 119]⟩))))), [], none⟩, ⟨none, (.pan (.t 50)), [0], none⟩]) .skip)) j48_4))) j48_5)
def lb48_0 : SCode :=
  (.seq none (.region false [⟨(some 42), (.ibin .i64 .lss (.t 41) (.t 40)), [], none⟩]) (.seq (some [0, 1, 5, 39, 40, 41]) (.cond (.t 42) .skip (.exit 1)) j48_3))
def j48_8 : SCode :=
  (.region false [⟨(some 73), (.ibin .i64 .add (.t 65) (.k (.one (.d (.int .i64 1))))), [], none⟩, ⟨(some 65), (.mov (.t 73)), [0], none⟩])
def j48_7 : SCode :=
  (.seq (some [1, 8, 63, 64, 65]) (.block 4 (.seq none (.region false [⟨(some 67), (.iaddr 1 (.t 63) (.t 65)), [], none⟩, ⟨(some 68), (.load false 1 (.t 67)), [0], none⟩, ⟨(some 10), (.mov (.t 68)), [1,
  0, 1], none⟩]) (.seq none (.region false [⟨(some 69), (.mov (.t 1)), [], none⟩, ⟨(some 70), (.call 70 [(.t 8), (.t 69)]), [0], none⟩]) (.region false [⟨(some 71), (.mov (.t 10)), [], none⟩,
  ⟨(some 72), (.call 70 [(.t 8), (.t 71)]), [0], none⟩])))) j48_8)
def lb48_1 : SCode :=
  (.seq none (.region false [⟨(some 66), (.ibin .i64 .lss (.t 65) (.t 64)), [], none⟩]) (.seq (some [1, 8, 63, 64, 65]) (.cond (.t 66) .skip (.exit 3)) j48_7))
def j48_9 : SCode :=
  (.seq none (.region false [⟨(some 74), (.call 71 [(.t 8)]), [], none⟩, ⟨(some 4), (.mov (.t 74)), [0, 0, 0], none⟩]) .ret)
def j48_6 : SCode :=
  (.seq none (.region false [⟨(some 8), (.alloc [.any, (.lst 1)] [(.d .junk), (.nilL 1)]), [], none⟩]) (.seq none (.region false [⟨(some 56), (.mov (.t 5)), [], none⟩, ⟨(some 57), (.call 69 [(.t 8),
  (.t 56)]), [0], none⟩]) (.seq none (.region false [⟨(some 58), (.mov (.t 0)), [], none⟩, ⟨(some 59), (.iaddr 1 (.t 58) (.k (.one (.d (.int .i64 0))))), [0], none⟩, ⟨(some 60),
  (.load false 1 (.t 59)), [1], none⟩, ⟨(some 61), (.call 70 [(.t 8), (.t 60)]), [2], none⟩]) (.seq (some [8]) (.seq none (.region false [⟨(some 62), (.mov (.t 0)), [], none⟩, ⟨(some 63),
  (.subl 1 (.t 62) (some (.k (.one (.d (.int .i64 1))))) none), [0], none⟩, ⟨(some 64), (.len false (.t 63)), [1], none⟩, ⟨(some 65), (.mov (.k (.one (.d (.int .i64 0))))), [],
  none⟩]) (.block 3 (.loop [1, 8, 63, 64, 65] lb48_1))) j48_9))))
def j48_2 : SCode :=
  (.seq (some [0, 1, 5]) (.seq none (.region false [⟨(some 39), (.mov (.t 0)), [], none⟩, ⟨(some 40), (.len false (.t 39)), [0], none⟩, ⟨(some 41), (.mov (.k (.one (.d (.int .i64 0))))), [],
  none⟩]) (.block 1 (.loop [0, 1, 5, 39, 40, 41] lb48_0))) j48_6)
def j48_0 : SCode :=
  (.seq none (.region false [⟨(some 5), (.mov (.k (.one (.d (.int .i64 0))))), [], none⟩]) (.seq (some [0, 1, 5]) (.seq none (.region false [⟨(some 20), (.mov (.t 1)), [], none⟩, ⟨(some 21),
  (.len true (.t 20)), [0], none⟩, ⟨(some 22), (.ibin .i64 .gtr (.t 21) (.k (.one (.d (.int .i64 0))))), [1], none⟩]) (.cond (.t 22) (.seq (some [0, 1, 5]) (.seq none (.region false [⟨(some 23),
  (.mov (.t 1)), [], none⟩, ⟨(some 24), (.len true (.t 23)), [0], none⟩, ⟨(some 25), (.mov (.t 0)), [], none⟩, ⟨(some 26), (.len false (.t 25)), [2], none⟩, ⟨(some 27),
  (.ibin .i64 .sub (.t 26) (.k (.one (.d (.int .i64 1))))), [3], none⟩, ⟨(some 28), (.ibin .i64 .quo (.k (.one (.d (.int .i64 9223372036854775807)))) (.t 27)), [4], none⟩, ⟨(some 29),
  (.ibin .i64 .geq (.t 24) (.t 28)), [1, 5], none⟩]) (.cond (.t 29) (.region false [⟨(some 30), (.mkI 9 (.k (.one (.d (.str ⟨#[115, 116, 114, 105, 110, 103, 115, 58, 32, 74, 111, 105, 110, 32, 111,
  117, 116, 112, 117, 116, 32, 108, 101, 110, 103, 116, 104, 32, 111, 118, 101, 114, 102, 108, 111, 119]⟩))))), [], none⟩, ⟨none, (.pan (.t 30)), [0], none⟩]) .skip)) j48_1) .skip)) j48_2))
def sf48 : SFunc :=
  ⟨2, [(.tmp 4)], (.seq none (.region false [⟨(some 4), (.mov (.k (.one (.d (.str ⟨#[]⟩))))), [], none⟩]) (.seq (some [0, 1]) (.seq none (.region false [⟨(some 11), (.mov (.t 0)), [], none⟩, ⟨(some 12),
  (.len false (.t 11)), [0], none⟩]) (.block 0 (.seq none (.region false [⟨(some 14), (.ibin .i64 .eql (.t 12) (.k (.one (.d (.int .i64 0))))), [], none⟩, ⟨(some 13), (.mov (.t 14)), [0],
  none⟩]) (.cond (.t 13) (.seq none (.region false [⟨(some 4), (.mov (.k (.one (.d (.str ⟨#[]⟩))))), [], none⟩]) .ret) (.seq none (.region false [⟨(some 16),
  (.ibin .i64 .eql (.t 12) (.k (.one (.d (.int .i64 1))))), [], none⟩, ⟨(some 15), (.mov (.t 16)), [0], none⟩]) (.cond (.t 15) (.seq none (.region false [⟨(some 17), (.mov (.t 0)), [], none⟩,
  ⟨(some 18), (.iaddr 1 (.t 17) (.k (.one (.d (.int .i64 0))))), [0], none⟩, ⟨(some 19), (.load false 1 (.t 18)), [1], none⟩, ⟨(some 4), (.mov (.t 19)), [2, 0, 1, 2],
  none⟩]) .ret) .skip)))))) j48_0))⟩
theorem c48 : compFunc Tryd.prog [none, some [0, 1], none, none, none, none, none, none, some [0, 1, 5], none, some [0, 1, 5], none, some [0, 1, 5], none, some [0, 1, 5, 39, 40, 41], none, some [0, 1, 5, 39, 40, 41], some [0, 1, 5, 39, 40, 41], none, some [0, 1, 5, 7, 39, 40, 41], none, none, none, none, some [8], none, some [1, 8, 63, 64, 65], none, some [1, 8, 63, 64, 65], some [1, 8, 63, 64, 65], none, none, none] Tryd.f48 = some sf48 := by kernel_rfl
/-! sortilege/sortilegeref03.joined -/
def j49_1 : SCode :=
  (.region false [⟨(some 15), (.mov (.t 3)), [], none⟩, ⟨(some 16), (.mov (.t 0)), [], none⟩, ⟨(some 17), (.mov (.t 4)), [], none⟩, ⟨(some 18), (.iaddr 1 (.t 16) (.t 17)), [1, 2], none⟩, ⟨(some 19),
  (.load false 1 (.t 18)), [3], none⟩, ⟨(some 20), (.sbin .add (.t 15) (.t 19)), [0, 4], none⟩, ⟨(some 3), (.mov (.t 20)), [5, 0, 1, 2, 3, 4, 5], none⟩])
def j49_2 : SCode :=
  (.region false [⟨(some 9), (.mov (.t 4)), [], none⟩, ⟨(some 10), (.ibin .i64 .add (.t 9) (.k (.one (.d (.int .i64 1))))), [0], none⟩, ⟨(some 4), (.mov (.t 10)), [1, 0, 1], none⟩])
def j49_0 : SCode :=
  (.seq (some [0, 3, 4]) (.block 1 (.seq (some [0, 3, 4]) (.seq none (.region false [⟨(some 11), (.mov (.t 4)), [], none⟩, ⟨(some 12), (.ibin .i64 .gtr (.t 11) (.k (.one (.d (.int .i64 0))))), [0],
  none⟩]) (.cond (.t 12) (.region false [⟨(some 13), (.mov (.t 3)), [], none⟩, ⟨(some 14), (.sbin .add (.t 13) (.k (.one (.d (.str ⟨#[44, 32]⟩))))), [0], none⟩, ⟨(some 3), (.mov (.t 14)), [1, 0, 1],
  none⟩]) .skip)) j49_1)) j49_2)
def lb49_0 : SCode :=
  (.seq (some [0, 3, 4]) (.seq none (.region false [⟨(some 5), (.mov (.t 4)), [], none⟩, ⟨(some 6), (.mov (.t 0)), [], none⟩, ⟨(some 7), (.len false (.t 6)), [1], none⟩, ⟨(some 8),
  (.ibin .i64 .lss (.t 5) (.t 7)), [0, 2], none⟩]) (.cond (.t 8) .skip (.exit 0))) j49_0)
def j49_3 : SCode :=
  (.seq none (.region false [⟨(some 21), (.mov (.t 3)), [], none⟩, ⟨(some 2), (.mov (.t 21)), [0, 0], none⟩]) .ret)
def sf49 : SFunc :=
  ⟨1, [(.tmp 2)], (.seq none (.region false [⟨(some 2), (.mov (.k (.one (.d (.str ⟨#[]⟩))))), [], none⟩]) (.seq none (.region false [⟨(some 3), (.mov (.k (.one (.d (.str ⟨#[]⟩))))), [],
  none⟩]) (.seq (some [3]) (.seq none (.region false [⟨(some 4), (.mov (.k (.one (.d (.int .i64 0))))), [], none⟩]) (.block 0 (.loop [0, 3, 4] lb49_0))) j49_3)))⟩
theorem c49 : compFunc Tryd.prog [none, none, some [3], none, some [0, 3, 4], some [0, 3, 4], none, some [0, 3, 4], some [0, 3, 4], none, none] Tryd.f49 = some sf49 := by kernel_rfl
/-! sortilege/sortilegelaw03.size -/
def j50_1 : SCode :=
  (.region false [⟨(some 20), (.mov (.t 7)), [], none⟩, ⟨(some 21), (.ibin .i64 .add (.t 20) (.k (.one (.d (.int .i64 1))))), [0], none⟩, ⟨(some 7), (.mov (.t 21)), [1, 0, 1], none⟩])
def j50_0 : SCode :=
  (.seq (some [1, 2, 3, 7]) (.block 1 (.region false [⟨(some 22), (.faddr 2 (.t 3)), [], none⟩, ⟨(some 23), (.load false 1 (.t 22)), [0], none⟩, ⟨(some 24), (.mov (.t 7)), [], none⟩, ⟨(some 25),
  (.iaddr 3 (.t 23) (.t 24)), [1, 2], none⟩, ⟨(some 26), (.load true 3 (.t 25)), [3], none⟩, ⟨(some 27), (.mov (.t 1)), [], none⟩, ⟨(some 28), (.mov (.t 2)), [], none⟩, ⟨(some 29), (.call 50 [(.t 26),
  (.t 27), (.t 28)]), [4, 5, 6], none⟩, ⟨(some 1), (.mov (.t 29)), [7, 7, 0, 1, 2, 3, 4, 5, 6, 7], none⟩])) j50_1)
def lb50_0 : SCode :=
  (.seq (some [1, 2, 3, 7]) (.seq none (.region false [⟨(some 10), (.mov (.t 7)), [], none⟩, ⟨(some 11), (.faddr 2 (.t 3)), [], none⟩, ⟨(some 12), (.load false 1 (.t 11)), [1], none⟩, ⟨(some 13),
  (.len false (.t 12)), [2], none⟩, ⟨(some 14), (.ibin .i64 .lss (.t 10) (.t 13)), [0, 3], none⟩, ⟨(some 15), (.mov (.t 14)), [4], none⟩, ⟨(some 16), (.mov (.t 1)), [5], (some (5, (15, true)))⟩,
  ⟨(some 17), (.mov (.t 2)), [5], (some (5, (15, true)))⟩, ⟨(some 18), (.ibin .i64 .leq (.t 16) (.t 17)), [6, 7, 5], (some (5, (15, true)))⟩, ⟨(some 19),
  (.pick (.t 15) (.t 18) (.k (.one (.d (.bool false))))), [5, 8], none⟩]) (.cond (.t 19) .skip (.exit 0))) j50_0)
def j50_2 : SCode :=
  (.seq none (.region false [⟨(some 30), (.mov (.t 1)), [], none⟩, ⟨(some 6), (.mov (.t 30)), [0, 0], none⟩]) .ret)
def sf50 : SFunc :=
  ⟨3, [(.tmp 6)], (.seq none (.region false [⟨(some 3), (.box [(.int .i64), (.int .i64), (.lst 3)] (.t 0)), [], none⟩, ⟨(some 6), (.mov (.k (.one (.d (.int .i64 0))))), [],
  none⟩]) (.seq none (.region false [⟨(some 8), (.mov (.t 1)), [], none⟩, ⟨(some 9), (.ibin .i64 .add (.t 8) (.k (.one (.d (.int .i64 1))))), [0], none⟩, ⟨(some 1), (.mov (.t 9)), [1, 0, 1],
  none⟩]) (.seq (some [1]) (.seq none (.region false [⟨(some 7), (.mov (.k (.one (.d (.int .i64 0))))), [], none⟩]) (.block 0 (.loop [1, 2, 3, 7] lb50_0))) j50_2)))⟩
theorem c50 : compFunc Tryd.prog [none, none, some [1], none, some [1, 2, 3, 7], some [1, 2, 3, 7], none, some [1, 2, 3, 7], none] Tryd.f50 = some sf50 := by kernel_rfl
/-! sortilege/value.has -/
def j51_1 : SCode :=
  (.seq none (.region false [⟨(some 56), (.faddr 1 (.t 3)), [], none⟩, ⟨(some 57), (.load false 1 (.t 56)), [0], none⟩, ⟨(some 58), (.ibin .i64 .eql (.t 57) (.k (.one (.d (.int .i64 0))))), [1], none⟩,
  ⟨(some 59), (.mov (.t 58)), [2], none⟩, ⟨(some 60), (.faddr 2 (.t 3)), [3], (some (3, (59, true)))⟩, ⟨(some 61), (.load false 1 (.t 60)), [4, 3], (some (3, (59, true)))⟩, ⟨(some 62),
  (.len false (.t 61)), [5, 3], (some (3, (59, true)))⟩, ⟨(some 63), (.ibin .i64 .leq (.t 62) (.k (.one (.d (.int .i64 32))))), [6, 3], (some (3, (59, true)))⟩, ⟨(some 64),
  (.pick (.t 59) (.t 63) (.k (.one (.d (.bool false))))), [3, 7], none⟩, ⟨(some 65), (.mov (.t 64)), [8, 3], none⟩, ⟨(some 66), (.faddr 2 (.t 3)), [9], (some (9, (65, true)))⟩, ⟨(some 67),
  (.load false 1 (.t 66)), [10, 9], (some (9, (65, true)))⟩, ⟨(some 68), (.mkF 74 [(.t 2)]), [9], (some (9, (65, true)))⟩, ⟨(some 69), (.call 73 [(.t 67), (.t 68)]), [11, 12, 9, 9], (some (9, (65,
  true)))⟩, ⟨(some 70), (.inot (.t 69)), [13, 9], (some (9, (65, true)))⟩, ⟨(some 71), (.pick (.t 65) (.t 70) (.k (.one (.d (.bool false))))), [9, 14], none⟩, ⟨(some 4), (.mov (.t 71)), [15, 13, 0, 1,
  2, 3, 4, 5, 6, 7, 8, 9, 10, 11, 12, 13, 14, 15], none⟩]) .ret)
def j51_0 : SCode :=
  (.seq (some [2, 3]) (.seq none (.region false [⟨(some 10), (.faddr 0 (.t 2)), [], none⟩, ⟨(some 11), (.load false 1 (.t 10)), [0], none⟩]) (.block 0 (.seq none (.region false [⟨(some 13),
  (.ibin .i64 .eql (.t 11) (.k (.one (.d (.int .i64 1))))), [], none⟩, ⟨(some 12), (.mov (.t 13)), [0], none⟩]) (.cond (.t 12) (.seq none (.region false [⟨(some 14), (.faddr 1 (.t 3)), [], none⟩,
  ⟨(some 15), (.load false 1 (.t 14)), [0], none⟩, ⟨(some 16), (.ibin .i64 .eql (.t 15) (.k (.one (.d (.int .i64 0))))), [1], none⟩, ⟨(some 17), (.mov (.t 16)), [2], none⟩, ⟨(some 18),
  (.faddr 1 (.t 3)), [3], (some (3, (17, false)))⟩, ⟨(some 19), (.load false 1 (.t 18)), [4, 3], (some (3, (17, false)))⟩, ⟨(some 20), (.ibin .i64 .eql (.t 19) (.k (.one (.d (.int .i64 1))))), [5, 3],
  (some (3, (17, false)))⟩, ⟨(some 21), (.pick (.t 17) (.k (.one (.d (.bool true)))) (.t 20)), [3, 6], none⟩, ⟨(some 22), (.mov (.t 21)), [7, 3], none⟩, ⟨(some 23), (.faddr 2 (.t 3)), [8], (some (8,
  (22, true)))⟩, ⟨(some 24), (.load false 1 (.t 23)), [9, 8], (some (8, (22, true)))⟩, ⟨(some 25), (.len false (.t 24)), [10, 8], (some (8, (22, true)))⟩, ⟨(some 26),
  (.ibin .i64 .eql (.t 25) (.k (.one (.d (.int .i64 0))))), [11, 8], (some (8, (22, true)))⟩, ⟨(some 27), (.pick (.t 22) (.t 26) (.k (.one (.d (.bool false))))), [8, 12], none⟩, ⟨(some 4),
  (.mov (.t 27)), [13, 8, 0, 1, 2, 3, 4, 5, 6, 7, 8, 9, 10, 11, 12, 13], none⟩]) .ret) (.seq none (.region false [⟨(some 29), (.ibin .i64 .eql (.t 11) (.k (.one (.d (.int .i64 2))))), [], none⟩,
  ⟨(some 28), (.mov (.t 29)), [0], none⟩]) (.cond (.t 28) (.seq none (.region false [⟨(some 30), (.faddr 1 (.t 3)), [], none⟩, ⟨(some 31), (.load false 1 (.t 30)), [0], none⟩, ⟨(some 32),
  (.ibin .i64 .geq (.t 31) (.k (.one (.d (.int .i64 (-2147483648)))))), [1], none⟩, ⟨(some 33), (.mov (.t 32)), [2], none⟩, ⟨(some 34), (.faddr 1 (.t 3)), [3], (some (3, (33, true)))⟩, ⟨(some 35),
  (.load false 1 (.t 34)), [4, 3], (some (3, (33, true)))⟩, ⟨(some 36), (.ibin .i64 .leq (.t 35) (.k (.one (.d (.int .i64 2147483647))))), [5, 3], (some (3, (33, true)))⟩, ⟨(some 37),
  (.pick (.t 33) (.t 36) (.k (.one (.d (.bool false))))), [3, 6], none⟩, ⟨(some 38), (.mov (.t 37)), [7, 3], none⟩, ⟨(some 39), (.faddr 2 (.t 3)), [8], (some (8, (38, true)))⟩, ⟨(some 40),
  (.load false 1 (.t 39)), [9, 8], (some (8, (38, true)))⟩, ⟨(some 41), (.len false (.t 40)), [10, 8], (some (8, (38, true)))⟩, ⟨(some 42), (.ibin .i64 .eql (.t 41) (.k (.one (.d (.int .i64 0))))),
  [11, 8], (some (8, (38, true)))⟩, ⟨(some 43), (.pick (.t 38) (.t 42) (.k (.one (.d (.bool false))))), [8, 12], none⟩, ⟨(some 4), (.mov (.t 43)), [13, 8, 0, 1, 2, 3, 4, 5, 6, 7, 8, 9, 10, 11, 12,
  13], none⟩]) .ret) (.seq none (.region false [⟨(some 45), (.ibin .i64 .eql (.t 11) (.k (.one (.d (.int .i64 3))))), [], none⟩, ⟨(some 44), (.mov (.t 45)), [0],
  none⟩]) (.cond (.t 44) (.seq none (.region false [⟨(some 46), (.faddr 1 (.t 3)), [], none⟩, ⟨(some 47), (.load false 1 (.t 46)), [0], none⟩, ⟨(some 48),
  (.ibin .i64 .eql (.t 47) (.k (.one (.d (.int .i64 0))))), [1], none⟩, ⟨(some 49), (.mov (.t 48)), [2], none⟩, ⟨(some 50), (.faddr 1 (.t 2)), [3], (some (3, (49, true)))⟩, ⟨(some 51),
  (.load false 1 (.t 50)), [4, 3], (some (3, (49, true)))⟩, ⟨(some 52), (.faddr 2 (.t 3)), [3], (some (3, (49, true)))⟩, ⟨(some 53), (.load false 1 (.t 52)), [6, 3], (some (3, (49, true)))⟩,
  ⟨(some 54), (.call 72 [(.t 51), (.t 53), (.k (.one (.fn 51 [])))]), [5, 7, 3, 3], (some (3, (49, true)))⟩, ⟨(some 55), (.pick (.t 49) (.t 54) (.k (.one (.d (.bool false))))), [3, 8], none⟩,
  ⟨(some 4), (.mov (.t 55)), [9, 8, 0, 1, 2, 3, 4, 5, 6, 7, 8, 9], none⟩]) .ret) .skip)))))))) j51_1)
def sf51 : SFunc :=
  ⟨2, [(.tmp 4)], (.seq none (.region false [⟨(some 2), (.box [(.int .i64), (.lst 2)] (.t 0)), [], none⟩, ⟨(some 3), (.box [(.int .i64), (.int .i64), (.lst 3)] (.t 1)), [], none⟩, ⟨(some 4),
  (.mov (.k (.one (.d (.bool false))))), [], none⟩]) (.seq (some [2, 3]) (.seq none (.region false [⟨(some 5), (.faddr 0 (.t 3)), [], none⟩, ⟨(some 6), (.load false 1 (.t 5)), [0], none⟩, ⟨(some 7),
  (.faddr 0 (.t 2)), [], none⟩, ⟨(some 8), (.load false 1 (.t 7)), [2], none⟩, ⟨(some 9), (.ibin .i64 .neq (.t 6) (.t 8)), [1, 3], none⟩]) (.cond (.t 9) (.seq none (.region false [⟨(some 4),
  (.mov (.k (.one (.d (.bool false))))), [], none⟩]) .ret) .skip)) j51_0))⟩
theorem c51 : compFunc Tryd.prog [none, some [2, 3], none, none, some [2, 3], none, none, none, none, none, none, none, none] Tryd.f51 = some sf51 := by kernel_rfl
/-! sortilege/sortilegeref03.of -/
def j52_3 : SCode :=
  (.seq none (.region true [⟨(some 82), (.load true 2 (.t 7)), [], none⟩, ⟨(some 83), (.faddr 2 (.t 3)), [], none⟩, ⟨(some 84), (.load false 1 (.t 83)), [1], none⟩, ⟨(some 85), (.mov (.t 6)), [], none⟩,
  ⟨(some 86), (.iaddr 3 (.t 84) (.t 85)), [2, 3], none⟩, ⟨(some 87), (.load true 3 (.t 86)), [4], none⟩, ⟨(some 88), (.call 52 [(.t 82), (.t 87)]), [0, 5], none⟩, ⟨(some 89), (.inot (.t 88)), [6],
  none⟩]) (.cond (.t 89) (.seq none (.region false [⟨(some 4), (.mov (.k (.one (.d (.bool false))))), [], none⟩]) .ret) .skip))
def j52_4 : SCode :=
  (.region false [⟨(some 68), (.mov (.t 6)), [], none⟩, ⟨(some 69), (.ibin .i64 .add (.t 68) (.k (.one (.d (.int .i64 1))))), [0], none⟩, ⟨(some 6), (.mov (.t 69)), [1, 0, 1], none⟩])
def j52_2 : SCode :=
  (.seq (some [2, 3, 5, 6]) (.block 2 (.seq none (.region false [⟨(some 70), (.faddr 1 (.t 2)), [], none⟩, ⟨(some 71), (.load false 1 (.t 70)), [0], none⟩, ⟨(some 72),
  (.iaddr 2 (.t 71) (.k (.one (.d (.int .i64 0))))), [1], none⟩, ⟨(some 73), (.load true 2 (.t 72)), [2], none⟩, ⟨(some 7), (.alloc [(.int .i64), (.lst 2)] [(.d (.int .i64 0)), (.nilL 2)]), [], none⟩,
  ⟨none, (.store 2 (.t 7) (.t 73)), [4, 3, 0, 1, 2, 3, 4], none⟩]) (.seq (some [2, 3, 5, 6, 7]) (.seq none (.region false [⟨(some 74), (.faddr 0 (.t 2)), [], none⟩, ⟨(some 75),
  (.load false 1 (.t 74)), [0], none⟩, ⟨(some 76), (.ibin .i64 .eql (.t 75) (.k (.one (.d (.int .i64 3))))), [1], none⟩]) (.cond (.t 76) (.region false [⟨(some 77), (.faddr 1 (.t 2)), [], none⟩,
  ⟨(some 78), (.load false 1 (.t 77)), [0], none⟩, ⟨(some 79), (.mov (.t 6)), [], none⟩, ⟨(some 80), (.iaddr 2 (.t 78) (.t 79)), [1, 2], none⟩, ⟨(some 81), (.load true 2 (.t 80)), [3], none⟩, ⟨none,
  (.store 2 (.t 7) (.t 81)), [4, 0, 1, 2, 3, 4], none⟩]) .skip)) j52_3))) j52_4)
def lb52_0 : SCode :=
  (.seq (some [2, 3, 5, 6]) (.seq none (.region false [⟨(some 65), (.mov (.t 6)), [], none⟩, ⟨(some 66), (.mov (.t 5)), [], none⟩, ⟨(some 67), (.ibin .i64 .lss (.t 65) (.t 66)), [0, 1],
  none⟩]) (.cond (.t 67) .skip (.exit 1))) j52_2)
def j52_5 : SCode :=
  (.seq none (.region false [⟨(some 4), (.mov (.k (.one (.d (.bool true))))), [], none⟩]) .ret)
def j52_1 : SCode :=
  (.seq (some []) (.seq none (.region false [⟨(some 6), (.mov (.k (.one (.d (.int .i64 0))))), [], none⟩]) (.block 1 (.loop [2, 3, 5, 6] lb52_0))) j52_5)
def j52_0 : SCode :=
  (.seq (some [2, 3, 5]) (.seq none (.region false [⟨(some 16), (.faddr 0 (.t 2)), [], none⟩, ⟨(some 17), (.load false 1 (.t 16)), [0], none⟩]) (.block 0 (.seq none (.region false [⟨(some 26),
  (.ibin .i64 .eql (.t 17) (.k (.one (.d (.int .i64 1))))), [], none⟩, ⟨(some 25), (.mov (.t 26)), [0], none⟩]) (.cond (.t 25) (.seq none (.region false [⟨(some 27), (.mov (.t 5)), [], none⟩,
  ⟨(some 28), (.ibin .i64 .eql (.t 27) (.k (.one (.d (.int .i64 0))))), [0], none⟩, ⟨(some 29), (.mov (.t 28)), [1], none⟩, ⟨(some 30), (.faddr 1 (.t 3)), [2], (some (2, (29, true)))⟩, ⟨(some 31),
  (.load false 1 (.t 30)), [3, 2], (some (2, (29, true)))⟩, ⟨(some 32), (.ibin .i64 .eql (.t 31) (.k (.one (.d (.int .i64 0))))), [4, 2], (some (2, (29, true)))⟩, ⟨(some 33), (.mov (.t 32)), [5, 2,
  2], (some (2, (29, true)))⟩, ⟨(some 34), (.faddr 1 (.t 3)), [6], (some (6, (33, false)))⟩, ⟨(some 35), (.load false 1 (.t 34)), [7, 6], (some (6, (33, false)))⟩, ⟨(some 36),
  (.ibin .i64 .eql (.t 35) (.k (.one (.d (.int .i64 1))))), [8, 6], (some (6, (33, false)))⟩, ⟨(some 37), (.pick (.t 33) (.k (.one (.d (.bool true)))) (.t 36)), [6, 9, 2], (some (2, (29, true)))⟩,
  ⟨(some 38), (.pick (.t 29) (.t 37) (.k (.one (.d (.bool false))))), [2, 10], none⟩, ⟨(some 4), (.mov (.t 38)), [11, 6, 0, 1, 2, 3, 4, 5, 6, 7, 8, 9, 10, 11],
  none⟩]) .ret) (.seq none (.region false [⟨(some 40), (.ibin .i64 .eql (.t 17) (.k (.one (.d (.int .i64 2))))), [], none⟩, ⟨(some 39), (.mov (.t 40)), [0],
  none⟩]) (.cond (.t 39) (.seq none (.region false [⟨(some 41), (.mov (.t 5)), [], none⟩, ⟨(some 42), (.ibin .i64 .eql (.t 41) (.k (.one (.d (.int .i64 0))))), [0], none⟩, ⟨(some 43), (.mov (.t 42)),
  [1], none⟩, ⟨(some 44), (.faddr 1 (.t 3)), [2], (some (2, (43, true)))⟩, ⟨(some 45), (.load false 1 (.t 44)), [3, 2], (some (2, (43, true)))⟩, ⟨(some 46),
  (.ibin .i64 .geq (.t 45) (.k (.one (.d (.int .i64 (-2147483648)))))), [4, 2], (some (2, (43, true)))⟩, ⟨(some 47), (.pick (.t 43) (.t 46) (.k (.one (.d (.bool false))))), [2, 5], none⟩, ⟨(some 48),
  (.mov (.t 47)), [6, 2], none⟩, ⟨(some 49), (.faddr 1 (.t 3)), [7], (some (7, (48, true)))⟩, ⟨(some 50), (.load false 1 (.t 49)), [8, 7], (some (7, (48, true)))⟩, ⟨(some 51),
  (.ibin .i64 .leq (.t 50) (.k (.one (.d (.int .i64 2147483647))))), [9, 7], (some (7, (48, true)))⟩, ⟨(some 52), (.pick (.t 48) (.t 51) (.k (.one (.d (.bool false))))), [7, 10], none⟩, ⟨(some 4),
  (.mov (.t 52)), [11, 7, 0, 1, 2, 3, 4, 5, 6, 7, 8, 9, 10, 11], none⟩]) .ret) (.seq none (.region false [⟨(some 54), (.ibin .i64 .eql (.t 17) (.k (.one (.d (.int .i64 3))))), [], none⟩, ⟨(some 53),
  (.mov (.t 54)), [0], none⟩]) (.cond (.t 53) (.seq none (.region false [⟨(some 55), (.faddr 1 (.t 3)), [], none⟩, ⟨(some 56), (.load false 1 (.t 55)), [0], none⟩, ⟨(some 57),
  (.ibin .i64 .neq (.t 56) (.k (.one (.d (.int .i64 0))))), [1], none⟩, ⟨(some 58), (.mov (.t 57)), [2], none⟩, ⟨(some 59), (.mov (.t 5)), [3], (some (3, (58, false)))⟩, ⟨(some 60), (.faddr 1 (.t 2)),
  [3], (some (3, (58, false)))⟩, ⟨(some 61), (.load false 1 (.t 60)), [5, 3], (some (3, (58, false)))⟩, ⟨(some 62), (.len false (.t 61)), [6, 3], (some (3, (58, false)))⟩, ⟨(some 63),
  (.ibin .i64 .neq (.t 59) (.t 62)), [4, 7, 3], (some (3, (58, false)))⟩, ⟨(some 64), (.pick (.t 58) (.k (.one (.d (.bool true)))) (.t 63)), [3, 8],
  none⟩]) (.cond (.t 64) (.seq none (.region false [⟨(some 4), (.mov (.k (.one (.d (.bool false))))), [], none⟩]) .ret) .skip)) (.seq none (.region false [⟨(some 18), (.faddr 1 (.t 3)), [], none⟩,
  ⟨(some 19), (.load false 1 (.t 18)), [0], none⟩, ⟨(some 20), (.ibin .i64 .neq (.t 19) (.k (.one (.d (.int .i64 0))))), [1], none⟩, ⟨(some 21), (.mov (.t 20)), [2], none⟩, ⟨(some 22), (.mov (.t 5)),
  [3], (some (3, (21, false)))⟩, ⟨(some 23), (.ibin .i64 .gtr (.t 22) (.k (.one (.d (.int .i64 32))))), [4, 3], (some (3, (21, false)))⟩, ⟨(some 24),
  (.pick (.t 21) (.k (.one (.d (.bool true)))) (.t 23)), [3, 5], none⟩]) (.cond (.t 24) (.seq none (.region false [⟨(some 4), (.mov (.k (.one (.d (.bool false))))), [],
  none⟩]) .ret) .skip)))))))))) j52_1)
def sf52 : SFunc :=
  ⟨2, [(.tmp 4)], (.seq none (.region false [⟨(some 2), (.box [(.int .i64), (.lst 2)] (.t 0)), [], none⟩, ⟨(some 3), (.box [(.int .i64), (.int .i64), (.lst 3)] (.t 1)), [], none⟩, ⟨(some 4),
  (.mov (.k (.one (.d (.bool false))))), [], none⟩]) (.seq none (.region false [⟨(some 8), (.faddr 2 (.t 3)), [], none⟩, ⟨(some 9), (.load false 1 (.t 8)), [0], none⟩, ⟨(some 10), (.len false (.t 9)),
  [1], none⟩, ⟨(some 5), (.mov (.t 10)), [2, 0, 1, 2], none⟩]) (.seq (some [2, 3, 5]) (.seq none (.region false [⟨(some 11), (.faddr 0 (.t 3)), [], none⟩, ⟨(some 12), (.load false 1 (.t 11)), [0],
  none⟩, ⟨(some 13), (.faddr 0 (.t 2)), [], none⟩, ⟨(some 14), (.load false 1 (.t 13)), [2], none⟩, ⟨(some 15), (.ibin .i64 .neq (.t 12) (.t 14)), [1, 3],
  none⟩]) (.cond (.t 15) (.seq none (.region false [⟨(some 4), (.mov (.k (.one (.d (.bool false))))), [], none⟩]) .ret) .skip)) j52_0)))⟩
theorem c52 : compFunc Tryd.prog [none, none, some [2, 3, 5], none, none, some [2, 3, 5], none, none, none, none, none, none, none, none, none, none, some [], none, some [2, 3, 5, 6], some [2, 3, 5, 6], none, some [2, 3, 5, 6], none, some [2, 3, 5, 6, 7], none, none, none, none] Tryd.f52 = some sf52 := by kernel_rfl
/-! sortilege/value.shape -/
def j53_1 : SCode :=
  (.region false [⟨(some 74), (.faddr 1 (.t 6)), [], none⟩, ⟨(some 75), (.load false 1 (.t 74)), [0], none⟩, ⟨(some 76), (.load true 2 (.t 9)), [], none⟩, ⟨(some 77), (.lit 24 2 [(.t 76)]), [2], none⟩,
  ⟨(some 78), (.app 24 2 32 (.t 75) (.t 77)), [1, 3], none⟩, ⟨(some 79), (.faddr 1 (.t 6)), [0, 1, 2, 3, 4], none⟩, ⟨none, (.store 1 (.t 79) (.t 78)), [5, 4, 4, 0, 1, 2, 3, 4], none⟩])
def j53_2 : SCode :=
  (.region false [⟨(some 80), (.ibin .i64 .add (.t 60) (.k (.one (.d (.int .i64 1))))), [], none⟩, ⟨(some 60), (.mov (.t 80)), [0], none⟩])
def j53_0 : SCode :=
  (.seq (some [1, 4, 6, 58, 59, 60]) (.block 2 (.seq none (.region false [⟨(some 62), (.iaddr 3 (.t 58) (.t 60)), [], none⟩, ⟨(some 63), (.load true 3 (.t 62)), [0], none⟩, ⟨(some 8),
  (.alloc [(.int .i64), (.int .i64), (.lst 3)] [(.d (.int .i64 0)), (.d (.int .i64 0)), (.nilL 3)]), [], none⟩, ⟨none, (.store 3 (.t 8) (.t 63)), [2, 1, 0, 1, 2],
  none⟩]) (.seq none (.region false [⟨(some 65), (.load true 3 (.t 8)), [], none⟩, ⟨(some 66), (.mov (.t 1)), [], none⟩, ⟨(some 67), (.ibin .i64 .sub (.t 66) (.k (.one (.d (.int .i64 1))))), [1],
  none⟩, ⟨(some 68), (.call 53 [(.t 65), (.t 67)]), [0, 2], none⟩, ⟨(some 64), (.mov (.t 68)), [3], none⟩, ⟨(some 69), (.ext (.t 64) 0), [4], none⟩, ⟨(some 70), (.ext (.t 64) 1), [4], none⟩,
  ⟨(some 9), (.alloc [(.int .i64), (.lst 2)] [(.d (.int .i64 0)), (.nilL 2)]), [], none⟩, ⟨none, (.store 2 (.t 9) (.t 69)), [7, 5, 3, 0, 1, 2, 3, 4, 5, 7], none⟩, ⟨(some 10), (.mov (.t 70)), [6, 8, 0,
  1, 2, 3, 4, 5, 6, 7, 8], none⟩]) (.seq (some [1, 4, 6, 9, 58, 59, 60]) (.seq none (.region false [⟨(some 71), (.mov (.t 10)), [], none⟩, ⟨(some 72), (.inot (.t 71)), [0],
  none⟩]) (.cond (.t 72) (.seq none (.region false [⟨(some 73), (.load true 2 (.t 6)), [], none⟩, ⟨none, (.store 2 (.t 4) (.t 73)), [0, 0], none⟩, ⟨(some 5), (.mov (.k (.one (.d (.bool false))))), [1,
  0, 1], none⟩]) .ret) .skip)) j53_1)))) j53_2)
def lb53_0 : SCode :=
  (.seq none (.region false [⟨(some 61), (.ibin .i64 .lss (.t 60) (.t 59)), [], none⟩]) (.seq (some [1, 4, 6, 58, 59, 60]) (.cond (.t 61) .skip (.exit 1)) j53_0))
def j53_3 : SCode :=
  (.seq none (.region false [⟨(some 81), (.load true 2 (.t 6)), [], none⟩, ⟨none, (.store 2 (.t 4) (.t 81)), [0, 0], none⟩, ⟨(some 5), (.mov (.k (.one (.d (.bool true))))), [1, 0, 1], none⟩]) .ret)
def j53_5 : SCode :=
  (.seq none (.region false [⟨(some 118), (.mov (.t 15)), [], none⟩, ⟨(some 119), (.inot (.t 118)), [0], none⟩]) (.cond (.t 119) (.seq none (.region false [⟨(some 120), (.load true 2 (.t 6)), [], none⟩,
  ⟨none, (.store 2 (.t 4) (.t 120)), [0, 0], none⟩, ⟨(some 5), (.mov (.k (.one (.d (.bool false))))), [1, 0, 1], none⟩]) .ret) .skip))
def j53_6 : SCode :=
  (.region false [⟨(some 121), (.ibin .i64 .add (.t 100) (.k (.one (.d (.int .i64 1))))), [], none⟩, ⟨(some 100), (.mov (.t 121)), [0], none⟩])
def j53_4 : SCode :=
  (.seq (some [1, 4, 6, 11, 98, 99, 100]) (.block 4 (.seq none (.region false [⟨(some 102), (.iaddr 3 (.t 98) (.t 100)), [], none⟩, ⟨(some 103), (.load true 3 (.t 102)), [0], none⟩, ⟨(some 13),
  (.alloc [(.int .i64), (.int .i64), (.lst 3)] [(.d (.int .i64 0)), (.d (.int .i64 0)), (.nilL 3)]), [], none⟩, ⟨none, (.store 3 (.t 13) (.t 103)), [2, 1, 0, 1, 2],
  none⟩]) (.seq none (.region false [⟨(some 105), (.load true 3 (.t 13)), [], none⟩, ⟨(some 106), (.mov (.t 1)), [], none⟩, ⟨(some 107), (.ibin .i64 .sub (.t 106) (.k (.one (.d (.int .i64 1))))), [1],
  none⟩, ⟨(some 108), (.call 53 [(.t 105), (.t 107)]), [0, 2], none⟩, ⟨(some 104), (.mov (.t 108)), [3], none⟩, ⟨(some 109), (.ext (.t 104) 0), [4], none⟩, ⟨(some 110), (.ext (.t 104) 1), [4], none⟩,
  ⟨(some 14), (.alloc [(.int .i64), (.lst 2)] [(.d (.int .i64 0)), (.nilL 2)]), [], none⟩, ⟨none, (.store 2 (.t 14) (.t 109)), [7, 5, 3, 0, 1, 2, 3, 4, 5, 7], none⟩, ⟨(some 15), (.mov (.t 110)), [6,
  8, 0, 1, 2, 3, 4, 5, 6, 7, 8], none⟩]) (.seq (some [1, 4, 6, 11, 15, 98, 99, 100]) (.seq none (.region false [⟨(some 111), (.mov (.t 15)), [], none⟩]) (.cond (.t 111) (.region false [⟨(some 113),
  (.load true 2 (.t 11)), [], none⟩, ⟨(some 114), (.load true 2 (.t 14)), [], none⟩, ⟨(some 115), (.call 75 [(.t 113), (.t 114)]), [0, 1], none⟩, ⟨(some 112), (.mov (.t 115)), [2], none⟩, ⟨(some 116),
  (.ext (.t 112) 0), [3], none⟩, ⟨(some 117), (.ext (.t 112) 1), [3], none⟩, ⟨none, (.store 2 (.t 11) (.t 116)), [4, 2, 0, 1, 2, 3, 4], none⟩, ⟨(some 15), (.mov (.t 117)), [5, 6, 0, 1, 2, 3, 4, 5, 6],
  none⟩]) .skip)) j53_5)))) j53_6)
def lb53_1 : SCode :=
  (.seq none (.region false [⟨(some 101), (.ibin .i64 .lss (.t 100) (.t 99)), [], none⟩]) (.seq (some [1, 4, 6, 11, 98, 99, 100]) (.cond (.t 101) .skip (.exit 3)) j53_4))
def j53_7 : SCode :=
  (.seq none (.region false [⟨(some 122), (.load true 2 (.t 11)), [], none⟩, ⟨(some 123), (.lit 24 2 [(.t 122)]), [0], none⟩, ⟨(some 124), (.faddr 1 (.t 6)), [0, 1], none⟩, ⟨none,
  (.store 1 (.t 124) (.t 123)), [2, 1, 0, 1], none⟩]) (.seq none (.region false [⟨(some 125), (.load true 2 (.t 6)), [], none⟩, ⟨none, (.store 2 (.t 4) (.t 125)), [0, 0], none⟩, ⟨(some 5),
  (.mov (.k (.one (.d (.bool true))))), [1, 0, 1], none⟩]) .ret))
def j53_8 : SCode :=
  (.seq none (.region false [⟨(some 126), (.load true 2 (.t 6)), [], none⟩, ⟨none, (.store 2 (.t 4) (.t 126)), [0, 0], none⟩, ⟨(some 5), (.mov (.k (.one (.d (.bool false))))), [1, 0, 1], none⟩]) .ret)
def sf53 : SFunc :=
  ⟨2, [(.cell true 2 4), (.tmp 5)], (.seq none (.region false [⟨(some 2), (.box [(.int .i64), (.int .i64), (.lst 3)] (.t 0)), [], none⟩, ⟨(some 4), (.alloc [(.int .i64), (.lst 2)] [(.d (.int .i64 0)),
  (.nilL 2)]), [], none⟩, ⟨(some 5), (.mov (.k (.one (.d (.bool false))))), [], none⟩]) (.seq none (.region false [⟨(some 16), (.faddr 0 (.t 2)), [], none⟩, ⟨(some 17), (.load false 1 (.t 16)), [0],
  none⟩, ⟨(some 18), (.build [(.d (.int .i64 0)), (.nilL 2)] [(0, (1, (.t 17)))]), [1], none⟩, ⟨(some 6), (.alloc [(.int .i64), (.lst 2)] [(.d (.int .i64 0)), (.nilL 2)]), [], none⟩, ⟨none,
  (.store 2 (.t 6) (.t 18)), [3, 2, 0, 1, 2, 3], none⟩]) (.seq (some [4, 6]) (.block 0 (.seq none (.region false [⟨(some 20), (.mov (.t 1)), [], none⟩, ⟨(some 21),
  (.ibin .i64 .lss (.t 20) (.k (.one (.d (.int .i64 1))))), [0], none⟩, ⟨(some 19), (.mov (.t 21)), [1], none⟩]) (.cond (.t 19) (.seq none (.region false [⟨(some 22), (.load true 2 (.t 6)), [], none⟩,
  ⟨none, (.store 2 (.t 4) (.t 22)), [0, 0], none⟩, ⟨(some 5), (.mov (.k (.one (.d (.bool false))))), [1, 0, 1], none⟩]) .ret) (.seq none (.region false [⟨(some 24), (.faddr 0 (.t 2)), [], none⟩,
  ⟨(some 25), (.load false 1 (.t 24)), [0], none⟩, ⟨(some 26), (.ibin .i64 .eql (.t 25) (.k (.one (.d (.int .i64 1))))), [1], none⟩, ⟨(some 27), (.mov (.t 26)), [2], none⟩, ⟨(some 28),
  (.faddr 0 (.t 2)), [3], (some (3, (27, false)))⟩, ⟨(some 29), (.load false 1 (.t 28)), [4, 3], (some (3, (27, false)))⟩, ⟨(some 30), (.ibin .i64 .eql (.t 29) (.k (.one (.d (.int .i64 2))))), [5, 3],
  (some (3, (27, false)))⟩, ⟨(some 31), (.pick (.t 27) (.k (.one (.d (.bool true)))) (.t 30)), [3, 6], none⟩, ⟨(some 23), (.mov (.t 31)), [7, 3],
  none⟩]) (.cond (.t 23) (.seq none (.region true [⟨(some 32), (.load true 2 (.t 6)), [], none⟩, ⟨(some 33), (.load true 2 (.t 6)), [], none⟩, ⟨(some 34), (.load true 3 (.t 2)), [], none⟩, ⟨(some 35),
  (.call 51 [(.t 33), (.t 34)]), [1, 2], none⟩, ⟨none, (.store 2 (.t 4) (.t 32)), [0, 3, 0], none⟩, ⟨(some 5), (.mov (.t 35)), [3, 4, 0, 1, 2, 3, 4],
  none⟩]) .ret) (.seq none (.region false [⟨(some 37), (.faddr 0 (.t 2)), [], none⟩, ⟨(some 38), (.load false 1 (.t 37)), [0], none⟩, ⟨(some 39),
  (.ibin .i64 .eql (.t 38) (.k (.one (.d (.int .i64 3))))), [1], none⟩, ⟨(some 40), (.mov (.t 39)), [2], none⟩, ⟨(some 41), (.faddr 1 (.t 2)), [3], (some (3, (40, true)))⟩, ⟨(some 42),
  (.load false 1 (.t 41)), [4, 3], (some (3, (40, true)))⟩, ⟨(some 43), (.ibin .i64 .eql (.t 42) (.k (.one (.d (.int .i64 0))))), [5, 3], (some (3, (40, true)))⟩, ⟨(some 44),
  (.pick (.t 40) (.t 43) (.k (.one (.d (.bool false))))), [3, 6], none⟩, ⟨(some 45), (.mov (.t 44)), [7, 3], none⟩, ⟨(some 46), (.faddr 2 (.t 2)), [8], (some (8, (45, true)))⟩, ⟨(some 47),
  (.load false 1 (.t 46)), [9, 8], (some (8, (45, true)))⟩, ⟨(some 48), (.len false (.t 47)), [10, 8], (some (8, (45, true)))⟩, ⟨(some 49), (.ibin .i64 .geq (.t 48) (.k (.one (.d (.int .i64 2))))),
  [11, 8], (some (8, (45, true)))⟩, ⟨(some 50), (.pick (.t 45) (.t 49) (.k (.one (.d (.bool false))))), [8, 12], none⟩, ⟨(some 51), (.mov (.t 50)), [13, 8], none⟩, ⟨(some 52), (.faddr 2 (.t 2)), [14],
  (some (14, (51, true)))⟩, ⟨(some 53), (.load false 1 (.t 52)), [15, 14], (some (14, (51, true)))⟩, ⟨(some 54), (.len false (.t 53)), [16, 14], (some (14, (51, true)))⟩, ⟨(some 55),
  (.ibin .i64 .leq (.t 54) (.k (.one (.d (.int .i64 4))))), [17, 14], (some (14, (51, true)))⟩, ⟨(some 56), (.pick (.t 51) (.t 55) (.k (.one (.d (.bool false))))), [14, 18], none⟩, ⟨(some 36),
  (.mov (.t 56)), [19, 14], none⟩]) (.cond (.t 36) (.seq (some [4, 6]) (.seq none (.region false [⟨(some 57), (.faddr 2 (.t 2)), [], none⟩, ⟨(some 58), (.load false 1 (.t 57)), [0], none⟩, ⟨(some 59),
  (.len false (.t 58)), [1], none⟩, ⟨(some 60), (.mov (.k (.one (.d (.int .i64 0))))), [], none⟩]) (.block 1 (.loop [1, 4, 6, 58, 59, 60] lb53_0))) j53_3) (.seq none (.region false [⟨(some 83),
  (.faddr 0 (.t 2)), [], none⟩, ⟨(some 84), (.load false 1 (.t 83)), [0], none⟩, ⟨(some 85), (.ibin .i64 .eql (.t 84) (.k (.one (.d (.int .i64 4))))), [1], none⟩, ⟨(some 86), (.mov (.t 85)), [2],
  none⟩, ⟨(some 87), (.faddr 1 (.t 2)), [3], (some (3, (86, true)))⟩, ⟨(some 88), (.load false 1 (.t 87)), [4, 3], (some (3, (86, true)))⟩, ⟨(some 89),
  (.ibin .i64 .eql (.t 88) (.k (.one (.d (.int .i64 0))))), [5, 3], (some (3, (86, true)))⟩, ⟨(some 90), (.pick (.t 86) (.t 89) (.k (.one (.d (.bool false))))), [3, 6], none⟩, ⟨(some 91),
  (.mov (.t 90)), [7, 3], none⟩, ⟨(some 92), (.faddr 2 (.t 2)), [8], (some (8, (91, true)))⟩, ⟨(some 93), (.load false 1 (.t 92)), [9, 8], (some (8, (91, true)))⟩, ⟨(some 94), (.len false (.t 93)),
  [10, 8], (some (8, (91, true)))⟩, ⟨(some 95), (.ibin .i64 .leq (.t 94) (.k (.one (.d (.int .i64 32))))), [11, 8], (some (8, (91, true)))⟩, ⟨(some 96),
  (.pick (.t 91) (.t 95) (.k (.one (.d (.bool false))))), [8, 12], none⟩, ⟨(some 82), (.mov (.t 96)), [13, 8], none⟩]) (.cond (.t 82) (.seq none (.region false [⟨(some 11), (.alloc [(.int .i64),
  (.lst 2)] [(.d (.int .i64 0)), (.nilL 2)]), [], none⟩]) (.seq (some [4, 6, 11]) (.seq none (.region false [⟨(some 97), (.faddr 2 (.t 2)), [], none⟩, ⟨(some 98), (.load false 1 (.t 97)), [0], none⟩,
  ⟨(some 99), (.len false (.t 98)), [1], none⟩, ⟨(some 100), (.mov (.k (.one (.d (.int .i64 0))))), [], none⟩]) (.block 3 (.loop [1, 4, 6, 11, 98, 99, 100] lb53_1))) j53_7)) .skip))))))))) j53_8)))⟩
theorem c53 : compFunc Tryd.prog [none, none, some [4, 6], none, none, none, none, none, some [4, 6], none, some [1, 4, 6, 58, 59, 60], none, some [1, 4, 6, 58, 59, 60], some [1, 4, 6, 58, 59, 60], none, none, some [1, 4, 6, 9, 58, 59, 60], none, none, none, none, none, some [4, 6, 11], none, some [1, 4, 6, 11, 98, 99, 100], none, some [1, 4, 6, 11, 98, 99, 100], some [1, 4, 6, 11, 98, 99, 100], none, none, some [1, 4, 6, 11, 15, 98, 99, 100], none, none, none, none, none, none] Tryd.f53 = some sf53 := by kernel_rfl
/-! sortilege/value.closed -/
def j54_2 : SCode :=
  (.region false [⟨(some 27), (.ibin .i64 .add (.t 16) (.k (.one (.d (.int .i64 1))))), [], none⟩, ⟨(some 16), (.mov (.t 27)), [0], none⟩])
def j54_1 : SCode :=
  (.seq (some [2, 3, 14, 15, 16]) (.block 1 (.seq none (.region false [⟨(some 18), (.iaddr 2 (.t 14) (.t 16)), [], none⟩, ⟨(some 19), (.load true 2 (.t 18)), [0], none⟩, ⟨(some 5), (.alloc [(.int .i64),
  (.lst 2)] [(.d (.int .i64 0)), (.nilL 2)]), [], none⟩, ⟨none, (.store 2 (.t 5) (.t 19)), [2, 1, 0, 1, 2], none⟩]) (.region true [⟨(some 20), (.faddr 1 (.t 3)), [], none⟩, ⟨(some 21),
  (.load false 1 (.t 20)), [0], none⟩, ⟨(some 22), (.load true 2 (.t 5)), [], none⟩, ⟨(some 23), (.call 54 [(.t 22)]), [2], none⟩, ⟨(some 24), (.lit 24 2 [(.t 23)]), [3], none⟩, ⟨(some 25),
  (.app 24 2 32 (.t 21) (.t 24)), [1, 4, 3], none⟩, ⟨(some 26), (.faddr 1 (.t 3)), [0, 1, 2, 3, 4, 5], none⟩, ⟨none, (.store 1 (.t 26) (.t 25)), [6, 5, 5, 0, 1, 2, 3, 4, 5], none⟩]))) j54_2)
def lb54_0 : SCode :=
  (.seq none (.region false [⟨(some 17), (.ibin .i64 .lss (.t 16) (.t 15)), [], none⟩]) (.seq (some [2, 3, 14, 15, 16]) (.cond (.t 17) .skip (.exit 0)) j54_1))
def j54_3 : SCode :=
  (.seq none (.region false [⟨(some 28), (.load true 2 (.t 3)), [], none⟩, ⟨none, (.store 2 (.t 2) (.t 28)), [0, 0], none⟩]) .ret)
def j54_0 : SCode :=
  (.seq none (.region false [⟨(some 10), (.faddr 0 (.t 1)), [], none⟩, ⟨(some 11), (.load false 1 (.t 10)), [0], none⟩, ⟨(some 12), (.build [(.d (.int .i64 0)), (.nilL 2)] [(0, (1, (.t 11)))]), [1],
  none⟩, ⟨(some 3), (.alloc [(.int .i64), (.lst 2)] [(.d (.int .i64 0)), (.nilL 2)]), [], none⟩, ⟨none, (.store 2 (.t 3) (.t 12)), [3, 2, 0, 1, 2, 3], none⟩]) (.seq (some [2,
  3]) (.seq none (.region false [⟨(some 13), (.faddr 1 (.t 1)), [], none⟩, ⟨(some 14), (.load false 1 (.t 13)), [0], none⟩, ⟨(some 15), (.len false (.t 14)), [1], none⟩, ⟨(some 16),
  (.mov (.k (.one (.d (.int .i64 0))))), [], none⟩]) (.block 0 (.loop [2, 3, 14, 15, 16] lb54_0))) j54_3))
def sf54 : SFunc :=
  ⟨1, [(.cell true 2 2)], (.seq none (.region false [⟨(some 1), (.box [(.int .i64), (.lst 2)] (.t 0)), [], none⟩, ⟨(some 2), (.alloc [(.int .i64), (.lst 2)] [(.d (.int .i64 0)), (.nilL 2)]), [],
  none⟩]) (.seq (some [1, 2]) (.seq none (.region false [⟨(some 6), (.faddr 0 (.t 1)), [], none⟩, ⟨(some 7), (.load false 1 (.t 6)), [0], none⟩, ⟨(some 8),
  (.ibin .i64 .eql (.t 7) (.k (.one (.d (.int .i64 0))))), [1], none⟩]) (.cond (.t 8) (.seq none (.region false [⟨(some 9), (.build [(.d (.int .i64 0)), (.nilL 2)] [(0, (1,
  (.k (.one (.d (.int .i64 1))))))]), [], none⟩, ⟨none, (.store 2 (.t 2) (.t 9)), [0, 0], none⟩]) .ret) .skip)) j54_0))⟩
theorem c54 : compFunc Tryd.prog [none, some [1, 2], none, none, none, some [2, 3], none, some [2, 3, 14, 15, 16], none, some [2, 3, 14, 15, 16], some [2, 3, 14, 15, 16], none, none] Tryd.f54 = some sf54 := by kernel_rfl
/-! sortilege/sortilegeref03.open -/
def j55_3 : SCode :=
  (.region false [⟨(some 56), (.faddr 1 (.t 7)), [], none⟩, ⟨(some 57), (.load false 1 (.t 56)), [0], none⟩, ⟨(some 58), (.load true 2 (.t 9)), [], none⟩, ⟨(some 59), (.lit 24 2 [(.t 58)]), [2], none⟩,
  ⟨(some 60), (.app 24 2 32 (.t 57) (.t 59)), [1, 3], none⟩, ⟨(some 61), (.faddr 1 (.t 7)), [0, 1, 2, 3, 4], none⟩, ⟨none, (.store 1 (.t 61) (.t 60)), [5, 4, 4, 0, 1, 2, 3, 4], none⟩])
def j55_4 : SCode :=
  (.region false [⟨(some 40), (.mov (.t 8)), [], none⟩, ⟨(some 41), (.ibin .i64 .add (.t 40) (.k (.one (.d (.int .i64 1))))), [0], none⟩, ⟨(some 8), (.mov (.t 41)), [1, 0, 1], none⟩])
def j55_2 : SCode :=
  (.seq (some [1, 2, 4, 7, 8]) (.block 2 (.seq none (.region false [⟨(some 43), (.faddr 2 (.t 2)), [], none⟩, ⟨(some 44), (.load false 1 (.t 43)), [0], none⟩, ⟨(some 45), (.mov (.t 8)), [], none⟩,
  ⟨(some 46), (.iaddr 3 (.t 44) (.t 45)), [1, 2], none⟩, ⟨(some 47), (.load true 3 (.t 46)), [3], none⟩, ⟨(some 48), (.mov (.t 1)), [], none⟩, ⟨(some 49),
  (.ibin .i64 .add (.t 48) (.k (.one (.d (.int .i64 1))))), [5], none⟩, ⟨(some 50), (.call 55 [(.t 47), (.t 49)]), [4, 6], none⟩, ⟨(some 42), (.mov (.t 50)), [7], none⟩, ⟨(some 51), (.ext (.t 42) 0),
  [8], none⟩, ⟨(some 52), (.ext (.t 42) 1), [8], none⟩, ⟨(some 9), (.alloc [(.int .i64), (.lst 2)] [(.d (.int .i64 0)), (.nilL 2)]), [], none⟩, ⟨none, (.store 2 (.t 9) (.t 51)), [11, 9, 7, 0, 1, 2, 3,
  4, 5, 6, 7, 8, 9, 11], none⟩, ⟨(some 10), (.mov (.t 52)), [10, 12, 0, 1, 2, 3, 4, 5, 6, 7, 8, 9, 10, 11, 12], none⟩]) (.seq (some [1, 2, 4, 7, 8, 9]) (.seq none (.region false [⟨(some 53),
  (.mov (.t 10)), [], none⟩, ⟨(some 54), (.inot (.t 53)), [0], none⟩]) (.cond (.t 54) (.seq none (.region false [⟨(some 55), (.build [(.d (.int .i64 0)), (.nilL 2)] []), [], none⟩, ⟨none,
  (.store 2 (.t 4) (.t 55)), [0, 0], none⟩, ⟨(some 5), (.mov (.k (.one (.d (.bool false))))), [1, 0, 1], none⟩]) .ret) .skip)) j55_3))) j55_4)
def lb55_0 : SCode :=
  (.seq (some [1, 2, 4, 7, 8]) (.seq none (.region false [⟨(some 35), (.mov (.t 8)), [], none⟩, ⟨(some 36), (.faddr 2 (.t 2)), [], none⟩, ⟨(some 37), (.load false 1 (.t 36)), [1], none⟩, ⟨(some 38),
  (.len false (.t 37)), [2], none⟩, ⟨(some 39), (.ibin .i64 .lss (.t 35) (.t 38)), [0, 3], none⟩]) (.cond (.t 39) .skip (.exit 1))) j55_2)
def j55_5 : SCode :=
  (.seq none (.region true [⟨(some 62), (.load true 2 (.t 7)), [], none⟩, ⟨(some 63), (.faddr 1 (.t 2)), [], none⟩, ⟨(some 64), (.load false 1 (.t 63)), [1], none⟩, ⟨(some 65),
  (.ibin .i64 .eql (.t 64) (.k (.one (.d (.int .i64 0))))), [2], none⟩, ⟨(some 66), (.mov (.t 65)), [3], none⟩, ⟨(some 67), (.faddr 2 (.t 2)), [4], (some (4, (66, true)))⟩, ⟨(some 68),
  (.load false 1 (.t 67)), [5, 4], (some (4, (66, true)))⟩, ⟨(some 69), (.len false (.t 68)), [6, 4], (some (4, (66, true)))⟩, ⟨(some 70), (.ibin .i64 .geq (.t 69) (.k (.one (.d (.int .i64 2))))), [7,
  4], (some (4, (66, true)))⟩, ⟨(some 71), (.pick (.t 66) (.t 70) (.k (.one (.d (.bool false))))), [4, 8], none⟩, ⟨(some 72), (.mov (.t 71)), [9, 4], none⟩, ⟨(some 73), (.faddr 2 (.t 2)), [10],
  (some (10, (72, true)))⟩, ⟨(some 74), (.load false 1 (.t 73)), [11, 10], (some (10, (72, true)))⟩, ⟨(some 75), (.len false (.t 74)), [12, 10], (some (10, (72, true)))⟩, ⟨(some 76),
  (.ibin .i64 .leq (.t 75) (.k (.one (.d (.int .i64 4))))), [13, 10], (some (10, (72, true)))⟩, ⟨(some 77), (.pick (.t 72) (.t 76) (.k (.one (.d (.bool false))))), [10, 14], none⟩, ⟨none,
  (.store 2 (.t 4) (.t 62)), [0, 10, 0], none⟩, ⟨(some 5), (.mov (.t 77)), [15, 16, 0, 1, 2, 3, 4, 5, 6, 7, 8, 9, 10, 11, 12, 13, 14, 15, 16], none⟩]) .ret)
def j55_8 : SCode :=
  (.seq none (.region false [⟨(some 120), (.mov (.t 14)), [], none⟩, ⟨(some 121), (.inot (.t 120)), [0], none⟩]) (.cond (.t 121) (.seq none (.region false [⟨(some 122), (.build [(.d (.int .i64 0)),
  (.nilL 2)] []), [], none⟩, ⟨none, (.store 2 (.t 4) (.t 122)), [0, 0], none⟩, ⟨(some 5), (.mov (.k (.one (.d (.bool false))))), [1, 0, 1], none⟩]) .ret) .skip))
def j55_9 : SCode :=
  (.region false [⟨(some 100), (.mov (.t 12)), [], none⟩, ⟨(some 101), (.ibin .i64 .add (.t 100) (.k (.one (.d (.int .i64 1))))), [0], none⟩, ⟨(some 12), (.mov (.t 101)), [1, 0, 1], none⟩])
def j55_7 : SCode :=
  (.seq (some [1, 2, 4, 11, 12]) (.block 4 (.seq none (.region false [⟨(some 103), (.faddr 2 (.t 2)), [], none⟩, ⟨(some 104), (.load false 1 (.t 103)), [0], none⟩, ⟨(some 105), (.mov (.t 12)), [],
  none⟩, ⟨(some 106), (.iaddr 3 (.t 104) (.t 105)), [1, 2], none⟩, ⟨(some 107), (.load true 3 (.t 106)), [3], none⟩, ⟨(some 108), (.mov (.t 1)), [], none⟩, ⟨(some 109),
  (.ibin .i64 .add (.t 108) (.k (.one (.d (.int .i64 1))))), [5], none⟩, ⟨(some 110), (.call 55 [(.t 107), (.t 109)]), [4, 6], none⟩, ⟨(some 102), (.mov (.t 110)), [7], none⟩, ⟨(some 111),
  (.ext (.t 102) 0), [8], none⟩, ⟨(some 112), (.ext (.t 102) 1), [8], none⟩, ⟨(some 13), (.alloc [(.int .i64), (.lst 2)] [(.d (.int .i64 0)), (.nilL 2)]), [], none⟩, ⟨none,
  (.store 2 (.t 13) (.t 111)), [11, 9, 7, 0, 1, 2, 3, 4, 5, 6, 7, 8, 9, 11], none⟩, ⟨(some 14), (.mov (.t 112)), [10, 12, 0, 1, 2, 3, 4, 5, 6, 7, 8, 9, 10, 11, 12], none⟩]) (.seq (some [1, 2, 4, 11,
  12, 14]) (.seq none (.region false [⟨(some 113), (.mov (.t 14)), [], none⟩]) (.cond (.t 113) (.region false [⟨(some 115), (.load true 2 (.t 11)), [], none⟩, ⟨(some 116), (.load true 2 (.t 13)), [],
  none⟩, ⟨(some 117), (.call 76 [(.t 115), (.t 116)]), [0, 1], none⟩, ⟨(some 114), (.mov (.t 117)), [2], none⟩, ⟨(some 118), (.ext (.t 114) 0), [3], none⟩, ⟨(some 119), (.ext (.t 114) 1), [3], none⟩,
  ⟨none, (.store 2 (.t 11) (.t 118)), [4, 2, 0, 1, 2, 3, 4], none⟩, ⟨(some 14), (.mov (.t 119)), [5, 6, 0, 1, 2, 3, 4, 5, 6], none⟩]) .skip)) j55_8))) j55_9)
def lb55_1 : SCode :=
  (.seq (some [1, 2, 4, 11, 12]) (.seq none (.region false [⟨(some 95), (.mov (.t 12)), [], none⟩, ⟨(some 96), (.faddr 2 (.t 2)), [], none⟩, ⟨(some 97), (.load false 1 (.t 96)), [1], none⟩, ⟨(some 98),
  (.len false (.t 97)), [2], none⟩, ⟨(some 99), (.ibin .i64 .lss (.t 95) (.t 98)), [0, 3], none⟩]) (.cond (.t 99) .skip (.exit 3))) j55_7)
def j55_10 : SCode :=
  (.seq none (.region false [⟨(some 123), (.faddr 0 (.t 2)), [], none⟩, ⟨(some 124), (.load false 1 (.t 123)), [0], none⟩, ⟨(some 125), (.load true 2 (.t 11)), [], none⟩, ⟨(some 126),
  (.lit 24 2 [(.t 125)]), [2], none⟩, ⟨(some 127), (.build [(.d (.int .i64 0)), (.nilL 2)] [(0, (1, (.t 124))), (1, (1, (.t 126)))]), [1, 3], none⟩, ⟨none, (.store 2 (.t 4) (.t 127)), [4, 0, 1, 2, 3,
  4], none⟩, ⟨(some 5), (.mov (.k (.one (.d (.bool true))))), [5, 0, 1, 2, 3, 4, 5], none⟩]) .ret)
def j55_6 : SCode :=
  (.seq none (.region false [⟨(some 94), (.build [(.d (.int .i64 0)), (.nilL 2)] []), [], none⟩, ⟨(some 11), (.alloc [(.int .i64), (.lst 2)] [(.d (.int .i64 0)), (.nilL 2)]), [], none⟩, ⟨none,
  (.store 2 (.t 11) (.t 94)), [1, 0, 0, 1], none⟩]) (.seq (some [2, 4, 11]) (.seq none (.region false [⟨(some 12), (.mov (.k (.one (.d (.int .i64 0))))), [], none⟩]) (.block 3 (.loop [1, 2, 4, 11,
  12] lb55_1))) j55_10))
def j55_1 : SCode :=
  (.cond (.t 20) (.seq none (.region false [⟨(some 23), (.faddr 0 (.t 2)), [], none⟩, ⟨(some 24), (.load false 1 (.t 23)), [0], none⟩, ⟨(some 25), (.build [(.d (.int .i64 0)), (.nilL 2)] [(0, (1,
  (.t 24)))]), [1], none⟩, ⟨(some 6), (.alloc [(.int .i64), (.lst 2)] [(.d (.int .i64 0)), (.nilL 2)]), [], none⟩, ⟨none, (.store 2 (.t 6) (.t 25)), [3, 2, 0, 1, 2, 3],
  none⟩]) (.seq none (.region true [⟨(some 26), (.load true 2 (.t 6)), [], none⟩, ⟨(some 27), (.load true 2 (.t 6)), [], none⟩, ⟨(some 28), (.load true 3 (.t 2)), [], none⟩, ⟨(some 29),
  (.call 52 [(.t 27), (.t 28)]), [1, 2], none⟩, ⟨none, (.store 2 (.t 4) (.t 26)), [0, 3, 0], none⟩, ⟨(some 5), (.mov (.t 29)), [3, 4, 0, 1, 2, 3, 4],
  none⟩]) .ret)) (.seq none (.region false [⟨(some 31), (.ibin .i64 .eql (.t 19) (.k (.one (.d (.int .i64 3))))), [], none⟩, ⟨(some 30), (.mov (.t 31)), [0],
  none⟩]) (.cond (.t 30) (.seq none (.region false [⟨(some 32), (.faddr 0 (.t 2)), [], none⟩, ⟨(some 33), (.load false 1 (.t 32)), [0], none⟩, ⟨(some 34), (.build [(.d (.int .i64 0)), (.nilL 2)] [(0,
  (1, (.t 33)))]), [1], none⟩, ⟨(some 7), (.alloc [(.int .i64), (.lst 2)] [(.d (.int .i64 0)), (.nilL 2)]), [], none⟩, ⟨none, (.store 2 (.t 7) (.t 34)), [3, 2, 0, 1, 2, 3], none⟩]) (.seq (some [2, 4,
  7]) (.seq none (.region false [⟨(some 8), (.mov (.k (.one (.d (.int .i64 0))))), [], none⟩]) (.block 1 (.loop [1, 2, 4, 7, 8] lb55_0))) j55_5)) (.seq none (.region false [⟨(some 79),
  (.ibin .i64 .eql (.t 19) (.k (.one (.d (.int .i64 4))))), [], none⟩, ⟨(some 78), (.mov (.t 79)), [0], none⟩]) (.cond (.t 78) (.seq (some [1, 2, 4]) (.seq none (.region false [⟨(some 80),
  (.faddr 1 (.t 2)), [], none⟩, ⟨(some 81), (.load false 1 (.t 80)), [0], none⟩, ⟨(some 82), (.ibin .i64 .neq (.t 81) (.k (.one (.d (.int .i64 0))))), [1], none⟩, ⟨(some 83), (.mov (.t 82)), [2],
  none⟩, ⟨(some 84), (.faddr 2 (.t 2)), [3], (some (3, (83, false)))⟩, ⟨(some 85), (.load false 1 (.t 84)), [4, 3], (some (3, (83, false)))⟩, ⟨(some 86), (.len false (.t 85)), [5, 3], (some (3, (83,
  false)))⟩, ⟨(some 87), (.ibin .i64 .gtr (.t 86) (.k (.one (.d (.int .i64 32))))), [6, 3], (some (3, (83, false)))⟩, ⟨(some 88), (.pick (.t 83) (.k (.one (.d (.bool true)))) (.t 87)), [3, 7], none⟩,
  ⟨(some 89), (.mov (.t 88)), [8, 3], none⟩, ⟨(some 90), (.mov (.t 1)), [9], (some (9, (89, false)))⟩, ⟨(some 91), (.ibin .i64 .eql (.t 90) (.k (.one (.d (.int .i64 40))))), [10, 9], (some (9, (89,
  false)))⟩, ⟨(some 92), (.pick (.t 89) (.k (.one (.d (.bool true)))) (.t 91)), [9, 11], none⟩]) (.cond (.t 92) (.seq none (.region false [⟨(some 93), (.build [(.d (.int .i64 0)), (.nilL 2)] []), [],
  none⟩, ⟨none, (.store 2 (.t 4) (.t 93)), [0, 0], none⟩, ⟨(some 5), (.mov (.k (.one (.d (.bool false))))), [1, 0, 1], none⟩]) .ret) .skip)) j55_6) .skip)))))
def j55_11 : SCode :=
  (.seq none (.region false [⟨(some 128), (.build [(.d (.int .i64 0)), (.nilL 2)] []), [], none⟩, ⟨none, (.store 2 (.t 4) (.t 128)), [0, 0], none⟩, ⟨(some 5), (.mov (.k (.one (.d (.bool false))))), [1,
  0, 1], none⟩]) .ret)
def j55_0 : SCode :=
  (.seq (some [4]) (.seq none (.region false [⟨(some 18), (.faddr 0 (.t 2)), [], none⟩, ⟨(some 19), (.load false 1 (.t 18)), [0], none⟩]) (.block 0 (.seq (some [1, 2, 4, 19,
  20]) (.seq none (.region false [⟨(some 21), (.ibin .i64 .eql (.t 19) (.k (.one (.d (.int .i64 1))))), [], none⟩, ⟨(some 20), (.mov (.t 21)), [0],
  none⟩]) (.cond (.t 20) .skip (.region false [⟨(some 22), (.ibin .i64 .eql (.t 19) (.k (.one (.d (.int .i64 2))))), [], none⟩, ⟨(some 20), (.mov (.t 22)), [0], none⟩]))) j55_1))) j55_11)
def sf55 : SFunc :=
  ⟨2, [(.cell true 2 4), (.tmp 5)], (.seq none (.region false [⟨(some 2), (.box [(.int .i64), (.int .i64), (.lst 3)] (.t 0)), [], none⟩, ⟨(some 4), (.alloc [(.int .i64), (.lst 2)] [(.d (.int .i64 0)),
  (.nilL 2)]), [], none⟩, ⟨(some 5), (.mov (.k (.one (.d (.bool false))))), [], none⟩]) (.seq (some [1, 2, 4]) (.seq none (.region false [⟨(some 15), (.mov (.t 1)), [], none⟩, ⟨(some 16),
  (.ibin .i64 .gtr (.t 15) (.k (.one (.d (.int .i64 40))))), [0], none⟩]) (.cond (.t 16) (.seq none (.region false [⟨(some 17), (.build [(.d (.int .i64 0)), (.nilL 2)] []), [], none⟩, ⟨none,
  (.store 2 (.t 4) (.t 17)), [0, 0], none⟩, ⟨(some 5), (.mov (.k (.one (.d (.bool false))))), [1, 0, 1], none⟩]) .ret) .skip)) j55_0))⟩
theorem c55 : compFunc Tryd.prog [none, some [1, 2, 4], none, none, some [4], none, some [1, 2, 4, 19, 20], none, none, none, none, none, some [2, 4, 7], none, some [1, 2, 4, 7, 8], some [1, 2, 4, 7, 8], none, some [1, 2, 4, 7, 8], none, some [1, 2, 4, 7, 8, 9], none, none, none, none, some [1, 2, 4], none, none, none, some [2, 4, 11], none, some [1, 2, 4, 11, 12], some [1, 2, 4, 11, 12], none, some [1, 2, 4, 11, 12], none, some [1, 2, 4, 11, 12, 14], none, none, none, none, none] Tryd.f55 = some sf55 := by kernel_rfl
/-! sortilege/sortilegeref03.counted -/
def j56_1 : SCode :=
  (.region false [⟨(some 17), (.mov (.t 5)), [], none⟩, ⟨(some 18), (.ibin .i64 .add (.t 17) (.k (.one (.d (.int .i64 1))))), [0], none⟩, ⟨(some 5), (.mov (.t 18)), [1, 0, 1], none⟩])
def j56_0 : SCode :=
  (.seq (some [1, 2, 5]) (.block 1 (.region false [⟨(some 19), (.faddr 2 (.t 2)), [], none⟩, ⟨(some 20), (.load false 1 (.t 19)), [0], none⟩, ⟨(some 21), (.mov (.t 5)), [], none⟩, ⟨(some 22),
  (.iaddr 3 (.t 20) (.t 21)), [1, 2], none⟩, ⟨(some 23), (.load true 3 (.t 22)), [3], none⟩, ⟨(some 24), (.mov (.t 1)), [], none⟩, ⟨(some 25), (.call 56 [(.t 23), (.t 24)]), [4, 5], none⟩, ⟨(some 1),
  (.mov (.t 25)), [6, 6, 0, 1, 2, 3, 4, 5, 6], none⟩])) j56_1)
def lb56_0 : SCode :=
  (.seq (some [1, 2, 5]) (.seq none (.region false [⟨(some 8), (.mov (.t 5)), [], none⟩, ⟨(some 9), (.faddr 2 (.t 2)), [], none⟩, ⟨(some 10), (.load false 1 (.t 9)), [1], none⟩, ⟨(some 11),
  (.len false (.t 10)), [2], none⟩, ⟨(some 12), (.ibin .i64 .lss (.t 8) (.t 11)), [0, 3], none⟩, ⟨(some 13), (.mov (.t 12)), [4], none⟩, ⟨(some 14), (.mov (.t 1)), [5], (some (5, (13, true)))⟩,
  ⟨(some 15), (.ibin .i64 .leq (.t 14) (.k (.one (.d (.int .i64 1000))))), [6, 5], (some (5, (13, true)))⟩, ⟨(some 16), (.pick (.t 13) (.t 15) (.k (.one (.d (.bool false))))), [5, 7],
  none⟩]) (.cond (.t 16) .skip (.exit 0))) j56_0)
def j56_2 : SCode :=
  (.seq none (.region false [⟨(some 26), (.mov (.t 1)), [], none⟩, ⟨(some 4), (.mov (.t 26)), [0, 0], none⟩]) .ret)
def sf56 : SFunc :=
  ⟨2, [(.tmp 4)], (.seq none (.region false [⟨(some 2), (.box [(.int .i64), (.int .i64), (.lst 3)] (.t 0)), [], none⟩, ⟨(some 4), (.mov (.k (.one (.d (.int .i64 0))))), [],
  none⟩]) (.seq none (.region false [⟨(some 6), (.mov (.t 1)), [], none⟩, ⟨(some 7), (.ibin .i64 .add (.t 6) (.k (.one (.d (.int .i64 1))))), [0], none⟩, ⟨(some 1), (.mov (.t 7)), [1, 0, 1],
  none⟩]) (.seq (some [1]) (.seq none (.region false [⟨(some 5), (.mov (.k (.one (.d (.int .i64 0))))), [], none⟩]) (.block 0 (.loop [1, 2, 5] lb56_0))) j56_2)))⟩
theorem c56 : compFunc Tryd.prog [none, none, some [1], none, some [1, 2, 5], some [1, 2, 5], none, some [1, 2, 5], none] Tryd.f56 = some sf56 := by kernel_rfl
/-! cmp.Compare[int] -/
def j57_0 : SCode :=
  (.seq none (.region false [⟨(some 4), (.mov (.k (.one (.d (.int .i64 (-1)))))), [], none⟩]) .ret)
def j57_4 : SCode :=
  (.seq none (.region false [⟨(some 4), (.mov (.k (.one (.d (.int .i64 0))))), [], none⟩]) .ret)
def j57_3 : SCode :=
  (.seq (some []) (.seq none (.region false [⟨(some 17), (.mov (.t 0)), [], none⟩, ⟨(some 18), (.mov (.t 1)), [], none⟩, ⟨(some 19), (.ibin .i64 .gtr (.t 17) (.t 18)), [0, 1],
  none⟩]) (.cond (.t 19) (.seq none (.region false [⟨(some 4), (.mov (.k (.one (.d (.int .i64 1))))), [], none⟩]) .ret) .skip)) j57_4)
def j57_2 : SCode :=
  (.seq (some [0, 1]) (.seq none (.region false [⟨(some 14), (.mov (.t 0)), [], none⟩, ⟨(some 15), (.mov (.t 1)), [], none⟩, ⟨(some 16), (.ibin .i64 .lss (.t 14) (.t 15)), [0, 1],
  none⟩]) (.cond (.t 16) (.seq none (.region false [⟨(some 4), (.mov (.k (.one (.d (.int .i64 (-1)))))), [], none⟩]) .ret) .skip)) j57_3)
def j57_1 : SCode :=
  (.seq (some [0, 1]) (.seq none (.region false [⟨(some 13), (.mov (.t 6)), [], none⟩]) (.cond (.t 13) (.seq none (.region false [⟨(some 4), (.mov (.k (.one (.d (.int .i64 1))))), [],
  none⟩]) .ret) .skip)) j57_2)
def sf57 : SFunc :=
  ⟨2, [(.tmp 4)], (.seq none (.region false [⟨(some 4), (.mov (.k (.one (.d (.int .i64 0))))), [], none⟩]) (.seq none (.region false [⟨(some 7), (.mov (.t 0)), [], none⟩, ⟨(some 8), (.call 77 [(.t 7)]),
  [0], none⟩, ⟨(some 5), (.mov (.t 8)), [1, 1, 0, 1], none⟩]) (.seq none (.region false [⟨(some 9), (.mov (.t 1)), [], none⟩, ⟨(some 10), (.call 77 [(.t 9)]), [0], none⟩, ⟨(some 6), (.mov (.t 10)),
  [1, 1, 0, 1], none⟩]) (.seq (some [0, 1, 6]) (.seq none (.region false [⟨(some 11), (.mov (.t 5)), [], none⟩]) (.cond (.t 11) (.seq (some []) (.seq none (.region false [⟨(some 12), (.mov (.t 6)),
  [], none⟩]) (.cond (.t 12) (.seq none (.region false [⟨(some 4), (.mov (.k (.one (.d (.int .i64 0))))), [], none⟩]) .ret) .skip)) j57_0) .skip)) j57_1))))⟩
theorem c57 : compFunc Tryd.prog [none, none, none, some [0, 1, 6], none, some [], none, none, none, some [0, 1], none, none, some [0, 1], none, none, some [], none, none, none] Tryd.f57 = some sf57 := by kernel_rfl
/-! slices.CompareFunc[[]sortilege/api.Value,[]sortilege/api.Value,sortilege/api.Value,sortilege/api.Value] -/
def j58_1 : SCode :=
  (.seq none (.region false [⟨(some 22), (.mov (.t 1)), [], none⟩, ⟨(some 23), (.mov (.t 7)), [], none⟩, ⟨(some 24), (.iaddr 3 (.t 22) (.t 23)), [0, 1], none⟩, ⟨(some 25), (.load true 3 (.t 24)), [2],
  none⟩, ⟨(some 9), (.alloc [(.int .i64), (.int .i64), (.lst 3)] [(.d (.int .i64 0)), (.d (.int .i64 0)), (.nilL 3)]), [], none⟩, ⟨none, (.store 3 (.t 9) (.t 25)), [4, 3, 0, 1, 2, 3, 4],
  none⟩]) (.seq none (.region false [⟨(some 26), (.mov (.t 2)), [], none⟩, ⟨(some 27), (.load true 3 (.t 8)), [], none⟩, ⟨(some 28), (.load true 3 (.t 9)), [], none⟩, ⟨(some 29),
  (.callv (.t 26) [(.t 27), (.t 28)]), [0, 1, 2], none⟩, ⟨(some 10), (.mov (.t 29)), [3, 3, 0, 1, 2, 3], none⟩]) (.seq none (.region false [⟨(some 30), (.mov (.t 10)), [], none⟩, ⟨(some 31),
  (.ibin .i64 .neq (.t 30) (.k (.one (.d (.int .i64 0))))), [0], none⟩]) (.cond (.t 31) (.seq none (.region false [⟨(some 32), (.mov (.t 10)), [], none⟩, ⟨(some 6), (.mov (.t 32)), [0, 0],
  none⟩]) .ret) .skip))))
def j58_2 : SCode :=
  (.region false [⟨(some 33), (.ibin .i64 .add (.t 13) (.k (.one (.d (.int .i64 1))))), [], none⟩, ⟨(some 13), (.mov (.t 33)), [0], none⟩])
def j58_0 : SCode :=
  (.seq (some [0, 1, 2, 11, 12, 13]) (.block 1 (.seq none (.region false [⟨(some 15), (.mov (.t 13)), [], none⟩, ⟨(some 16), (.iaddr 3 (.t 11) (.t 13)), [], none⟩, ⟨(some 17), (.load true 3 (.t 16)),
  [1], none⟩, ⟨(some 8), (.alloc [(.int .i64), (.int .i64), (.lst 3)] [(.d (.int .i64 0)), (.d (.int .i64 0)), (.nilL 3)]), [], none⟩, ⟨(some 7), (.mov (.t 15)), [0, 0, 1, 2, 3], none⟩, ⟨none,
  (.store 3 (.t 8) (.t 17)), [3, 2, 4, 0, 1, 2, 3, 4], none⟩]) (.seq (some [0, 1, 2, 7, 8, 11, 12, 13]) (.seq none (.region false [⟨(some 18), (.mov (.t 7)), [], none⟩, ⟨(some 19), (.mov (.t 1)), [],
  none⟩, ⟨(some 20), (.len false (.t 19)), [1], none⟩, ⟨(some 21), (.ibin .i64 .geq (.t 18) (.t 20)), [0, 2], none⟩]) (.cond (.t 21) (.seq none (.region false [⟨(some 6),
  (.mov (.k (.one (.d (.int .i64 1))))), [], none⟩]) .ret) .skip)) j58_1))) j58_2)
def lb58_0 : SCode :=
  (.seq none (.region false [⟨(some 14), (.ibin .i64 .lss (.t 13) (.t 12)), [], none⟩]) (.seq (some [0, 1, 2, 11, 12, 13]) (.cond (.t 14) .skip (.exit 0)) j58_0))
def j58_4 : SCode :=
  (.seq none (.region false [⟨(some 6), (.mov (.k (.one (.d (.int .i64 0))))), [], none⟩]) .ret)
def j58_3 : SCode :=
  (.seq (some []) (.seq none (.region false [⟨(some 34), (.mov (.t 0)), [], none⟩, ⟨(some 35), (.len false (.t 34)), [0], none⟩, ⟨(some 36), (.mov (.t 1)), [], none⟩, ⟨(some 37), (.len false (.t 36)),
  [2], none⟩, ⟨(some 38), (.ibin .i64 .lss (.t 35) (.t 37)), [1, 3], none⟩]) (.cond (.t 38) (.seq none (.region false [⟨(some 6), (.mov (.k (.one (.d (.int .i64 (-1)))))), [],
  none⟩]) .ret) .skip)) j58_4)
def sf58 : SFunc :=
  ⟨3, [(.tmp 6)], (.seq none (.region false [⟨(some 6), (.mov (.k (.one (.d (.int .i64 0))))), [], none⟩]) (.seq (some [0, 1]) (.seq none (.region false [⟨(some 11), (.mov (.t 0)), [], none⟩,
  ⟨(some 12), (.len false (.t 11)), [0], none⟩, ⟨(some 13), (.mov (.k (.one (.d (.int .i64 0))))), [], none⟩]) (.block 0 (.loop [0, 1, 2, 11, 12, 13] lb58_0))) j58_3))⟩
theorem c58 : compFunc Tryd.prog [none, some [0, 1], none, some [0, 1, 2, 11, 12, 13], none, some [0, 1, 2, 11, 12, 13], some [0, 1, 2, 11, 12, 13], none, some [0, 1, 2, 7, 8, 11, 12, 13], none, none, none, none, none, none, some [], none, none, none] Tryd.f58 = some sf58 := by kernel_rfl
/-! sortilege/sortilegeref03.order -/
def j59_0 : SCode :=
  (.seq none (.region false [⟨(some 4), (.mov (.k (.one (.d (.int .i64 0))))), [], none⟩]) .ret)
def sf59 : SFunc :=
  ⟨2, [(.tmp 4)], (.seq none (.region false [⟨(some 4), (.mov (.k (.one (.d (.int .i64 0))))), [], none⟩]) (.seq (some []) (.block 0 (.seq none (.region false [⟨(some 6), (.mov (.t 0)), [], none⟩,
  ⟨(some 7), (.mov (.t 1)), [], none⟩, ⟨(some 8), (.ibin .i64 .lss (.t 6) (.t 7)), [0, 1], none⟩, ⟨(some 5), (.mov (.t 8)), [2], none⟩]) (.cond (.t 5) (.seq none (.region false [⟨(some 4),
  (.mov (.k (.one (.d (.int .i64 (-1)))))), [], none⟩]) .ret) (.seq none (.region false [⟨(some 10), (.mov (.t 0)), [], none⟩, ⟨(some 11), (.mov (.t 1)), [], none⟩, ⟨(some 12),
  (.ibin .i64 .gtr (.t 10) (.t 11)), [0, 1], none⟩, ⟨(some 9), (.mov (.t 12)), [2], none⟩]) (.cond (.t 9) (.seq none (.region false [⟨(some 4), (.mov (.k (.one (.d (.int .i64 1))))), [],
  none⟩]) .ret) .skip))))) j59_0))⟩
theorem c59 : compFunc Tryd.prog [none, some [], none, none, none, none, none] Tryd.f59 = some sf59 := by kernel_rfl
/-! sortilege/value.read -/
def j60_0 : SCode :=
  (.seq none (.region false [⟨(some 43), (.mov (.t 1)), [], none⟩, ⟨(some 44), (.call 65 [(.t 43), (.k (.one (.d (.str ⟨#[102, 97, 108, 115, 101]⟩))))]), [0], none⟩, ⟨(some 42), (.mov (.t 44)), [1],
  none⟩, ⟨(some 45), (.ext (.t 42) 0), [2], none⟩, ⟨(some 46), (.ext (.t 42) 1), [2], none⟩, ⟨(some 10), (.mov (.t 45)), [3, 1, 0, 1, 2, 3], none⟩, ⟨(some 11), (.mov (.t 46)), [4, 5, 0, 1, 2, 3, 4,
  5], none⟩]) (.seq none (.region false [⟨(some 47), (.load true 3 (.t 7)), [], none⟩, ⟨(some 48), (.mov (.t 10)), [], none⟩, ⟨(some 49), (.mov (.t 11)), [], none⟩, ⟨none, (.store 3 (.t 4) (.t 47)),
  [0, 0], none⟩, ⟨(some 5), (.mov (.t 48)), [1, 3, 0, 1, 3], none⟩, ⟨(some 6), (.mov (.t 49)), [2, 4, 0, 1, 2, 3, 4], none⟩]) .ret))
def j60_1 : SCode :=
  (.block 2 (.region false [⟨(some 78), (.mov (.t 12)), [], none⟩, ⟨(some 79), (.ibin .i64 .add (.t 78) (.k (.one (.d (.int .i64 1))))), [0], none⟩, ⟨(some 12), (.mov (.t 79)), [1, 0, 1], none⟩]))
def lb60_0 : SCode :=
  (.seq (some [1, 4, 7, 12]) (.seq none (.region false [⟨(some 52), (.mov (.t 12)), [], none⟩, ⟨(some 53), (.mov (.t 1)), [], none⟩, ⟨(some 54), (.len true (.t 53)), [1], none⟩, ⟨(some 55),
  (.ibin .i64 .lss (.t 52) (.t 54)), [0, 2], none⟩, ⟨(some 56), (.mov (.t 55)), [3], none⟩, ⟨(some 57), (.mov (.t 12)), [4], (some (4, (56, true)))⟩, ⟨(some 58),
  (.ibin .i64 .lss (.t 57) (.k (.one (.d (.int .i64 11))))), [5, 4], (some (4, (56, true)))⟩, ⟨(some 59), (.pick (.t 56) (.t 58) (.k (.one (.d (.bool false))))), [4, 6], none⟩, ⟨(some 60),
  (.mov (.t 59)), [7, 4], none⟩, ⟨(some 61), (.mov (.t 1)), [8], (some (8, (60, true)))⟩, ⟨(some 62), (.mov (.t 12)), [8], (some (8, (60, true)))⟩, ⟨(some 63), (.chr (.t 61) (.t 62)), [9, 10, 8],
  (some (8, (60, true)))⟩, ⟨(some 64), (.ibin .u8 .eql (.t 63) (.k (.one (.d (.int .u8 45))))), [11, 8], (some (8, (60, true)))⟩, ⟨(some 65), (.mov (.t 64)), [12, 8, 8], (some (8, (60, true)))⟩,
  ⟨(some 66), (.mov (.t 1)), [13], (some (13, (65, false)))⟩, ⟨(some 67), (.mov (.t 12)), [13], (some (13, (65, false)))⟩, ⟨(some 68), (.chr (.t 66) (.t 67)), [14, 15, 13], (some (13, (65, false)))⟩,
  ⟨(some 69), (.ibin .u8 .geq (.t 68) (.k (.one (.d (.int .u8 48))))), [16, 13], (some (13, (65, false)))⟩, ⟨(some 70), (.mov (.t 69)), [17, 13, 13], (some (13, (65, false)))⟩, ⟨(some 71),
  (.mov (.t 1)), [18], (some (18, (70, true)))⟩, ⟨(some 72), (.mov (.t 12)), [18], (some (18, (70, true)))⟩, ⟨(some 73), (.chr (.t 71) (.t 72)), [19, 20, 18], (some (18, (70, true)))⟩, ⟨(some 74),
  (.ibin .u8 .leq (.t 73) (.k (.one (.d (.int .u8 57))))), [21, 18], (some (18, (70, true)))⟩, ⟨(some 75), (.pick (.t 70) (.t 74) (.k (.one (.d (.bool false))))), [18, 22, 13], (some (13, (65,
  false)))⟩, ⟨(some 76), (.pick (.t 65) (.k (.one (.d (.bool true)))) (.t 75)), [13, 23, 8], (some (8, (60, true)))⟩, ⟨(some 77), (.pick (.t 60) (.t 76) (.k (.one (.d (.bool false))))), [8, 24],
  none⟩]) (.cond (.t 77) .skip (.exit 1))) j60_1)
def j60_2 : SCode :=
  (.seq none (.region false [⟨(some 81), (.mov (.t 1)), [], none⟩, ⟨(some 82), (.mov (.t 12)), [], none⟩, ⟨(some 83), (.sub (.t 81) none (some (.t 82))), [0, 1], none⟩, ⟨(some 84), (.call 78 [(.t 83)]),
  [2], none⟩, ⟨(some 80), (.mov (.t 84)), [3], none⟩, ⟨(some 85), (.ext (.t 80) 0), [4], none⟩, ⟨(some 86), (.ext (.t 80) 1), [4], none⟩, ⟨(some 13), (.mov (.t 85)), [5, 3, 0, 1, 2, 3, 4, 5], none⟩,
  ⟨(some 14), (.mov (.t 86)), [6, 7, 0, 1, 2, 3, 4, 5, 6, 7], none⟩]) (.seq none (.region false [⟨(some 87), (.mov (.t 13)), [], none⟩, ⟨(some 88), (.faddr 1 (.t 7)), [0], none⟩, ⟨none,
  (.store 1 (.t 88) (.t 87)), [1, 0, 0], none⟩]) (.seq none (.region true [⟨(some 89), (.load true 3 (.t 7)), [], none⟩, ⟨(some 90), (.mov (.t 1)), [], none⟩, ⟨(some 91), (.mov (.t 12)), [], none⟩,
  ⟨(some 92), (.sub (.t 90) (some (.t 91)) none), [1, 2], none⟩, ⟨(some 93), (.mov (.t 14)), [], none⟩, ⟨(some 94), (.inil false (.t 93)), [4], none⟩, ⟨(some 95), (.mov (.t 94)), [5], none⟩,
  ⟨(some 96), (.mov (.t 13)), [6], (some (6, (95, true)))⟩, ⟨(some 97), (.call 63 [(.t 96)]), [7, 6, 6], (some (6, (95, true)))⟩, ⟨(some 98), (.mov (.t 1)), [6], (some (6, (95, true)))⟩, ⟨(some 99),
  (.mov (.t 12)), [6], (some (6, (95, true)))⟩, ⟨(some 100), (.sub (.t 98) none (some (.t 99))), [9, 10, 6], (some (6, (95, true)))⟩, ⟨(some 101), (.sbin .eql (.t 97) (.t 100)), [8, 11, 6], (some (6,
  (95, true)))⟩, ⟨(some 102), (.pick (.t 95) (.t 101) (.k (.one (.d (.bool false))))), [6, 12], none⟩, ⟨none, (.store 3 (.t 4) (.t 89)), [0, 8, 0], none⟩, ⟨(some 5), (.mov (.t 92)), [3, 14, 0, 1, 2,
  3, 14], none⟩, ⟨(some 6), (.mov (.t 102)), [13, 15, 0, 1, 2, 3, 4, 5, 6, 7, 8, 9, 10, 11, 12, 13, 14, 15], none⟩]) .ret)))
def j60_7 : SCode :=
  (.region false [⟨(some 145), (.faddr 1 (.t 2)), [], none⟩, ⟨(some 146), (.load false 1 (.t 145)), [0], none⟩, ⟨(some 147), (.mov (.t 21)), [], none⟩, ⟨(some 148), (.iaddr 2 (.t 146) (.t 147)), [1, 2],
  none⟩, ⟨(some 149), (.load true 2 (.t 148)), [3], none⟩, ⟨none, (.store 2 (.t 22) (.t 149)), [4, 0, 1, 2, 3, 4], none⟩])
def j60_10 : SCode :=
  (.region false [⟨(some 175), (.mov (.t 17)), [], none⟩, ⟨(some 176), (.call 65 [(.t 175), (.k (.one (.d (.str ⟨#[44, 32]⟩))))]), [0], none⟩, ⟨(some 174), (.mov (.t 176)), [1], none⟩, ⟨(some 177),
  (.ext (.t 174) 0), [2], none⟩, ⟨(some 178), (.ext (.t 174) 1), [2], none⟩, ⟨(some 17), (.mov (.t 177)), [3, 1, 0, 1, 2, 3], none⟩, ⟨(some 18), (.mov (.t 178)), [4, 5, 0, 1, 2, 3, 4, 5], none⟩])
def j60_9 : SCode :=
  (.seq none (.region false [⟨(some 159), (.faddr 2 (.t 7)), [], none⟩, ⟨(some 160), (.load false 1 (.t 159)), [0], none⟩, ⟨(some 161), (.load true 3 (.t 23)), [], none⟩, ⟨(some 162),
  (.lit 36 3 [(.t 161)]), [2], none⟩, ⟨(some 163), (.app 36 3 40 (.t 160) (.t 162)), [1, 3], none⟩, ⟨(some 164), (.faddr 2 (.t 7)), [0, 1, 2, 3, 4], none⟩, ⟨none, (.store 1 (.t 164) (.t 163)), [5, 4,
  4, 0, 1, 2, 3, 4], none⟩]) (.seq (some [2, 4, 7, 16, 17, 21]) (.seq none (.region false [⟨(some 166), (.mov (.t 17)), [], none⟩, ⟨(some 167), (.mov (.t 16)), [], none⟩, ⟨(some 168),
  (.call 65 [(.t 166), (.t 167)]), [0, 1], none⟩, ⟨(some 165), (.mov (.t 168)), [2], none⟩, ⟨(some 169), (.ext (.t 165) 0), [3], none⟩, ⟨(some 170), (.ext (.t 165) 1), [3], none⟩, ⟨(some 24),
  (.mov (.t 169)), [4, 2, 0, 1, 2, 3, 4], none⟩, ⟨(some 25), (.mov (.t 170)), [5, 6, 0, 1, 2, 3, 4, 5, 6], none⟩]) (.seq none (.region false [⟨(some 171), (.mov (.t 25)), [],
  none⟩]) (.cond (.t 171) (.seq none (.region false [⟨(some 172), (.load true 3 (.t 7)), [], none⟩, ⟨(some 173), (.mov (.t 24)), [], none⟩, ⟨none, (.store 3 (.t 4) (.t 172)), [0, 0], none⟩, ⟨(some 5),
  (.mov (.t 173)), [1, 2, 0, 1, 2], none⟩, ⟨(some 6), (.mov (.k (.one (.d (.bool true))))), [3, 0, 1, 2, 3], none⟩]) .ret) .skip))) j60_10))
def j60_8 : SCode :=
  (.seq none (.region false [⟨(some 23), (.alloc [(.int .i64), (.int .i64), (.lst 3)] [(.d (.int .i64 0)), (.d (.int .i64 0)), (.nilL 3)]), [], none⟩]) (.seq (some [2, 4, 7, 16, 17, 21,
  23]) (.seq none (.region false [⟨(some 151), (.load true 2 (.t 22)), [], none⟩, ⟨(some 152), (.mov (.t 17)), [], none⟩, ⟨(some 153), (.call 60 [(.t 151), (.t 152)]), [0, 1], none⟩, ⟨(some 150),
  (.mov (.t 153)), [2], none⟩, ⟨(some 154), (.ext (.t 150) 0), [3], none⟩, ⟨(some 155), (.ext (.t 150) 1), [3], none⟩, ⟨(some 156), (.ext (.t 150) 2), [3], none⟩, ⟨none, (.store 3 (.t 23) (.t 154)),
  [4, 2, 0, 1, 2, 3, 4], none⟩, ⟨(some 17), (.mov (.t 155)), [5, 7, 0, 1, 2, 3, 4, 5, 7], none⟩, ⟨(some 18), (.mov (.t 156)), [6, 8, 0, 1, 2, 3, 4, 5, 6, 7, 8],
  none⟩]) (.seq none (.region false [⟨(some 157), (.mov (.t 18)), [], none⟩, ⟨(some 158), (.inot (.t 157)), [0], none⟩]) (.cond (.t 158) (.exit 3) .skip))) j60_9))
def j60_11 : SCode :=
  (.region false [⟨(some 130), (.mov (.t 21)), [], none⟩, ⟨(some 131), (.ibin .i64 .add (.t 130) (.k (.one (.d (.int .i64 1))))), [0], none⟩, ⟨(some 21), (.mov (.t 131)), [1, 0, 1], none⟩])
def j60_6 : SCode :=
  (.seq (some [2, 4, 7, 16, 17, 18, 21]) (.block 4 (.seq none (.region false [⟨(some 132), (.faddr 1 (.t 2)), [], none⟩, ⟨(some 133), (.load false 1 (.t 132)), [0], none⟩, ⟨(some 134),
  (.iaddr 2 (.t 133) (.k (.one (.d (.int .i64 0))))), [1], none⟩, ⟨(some 135), (.load true 2 (.t 134)), [2], none⟩, ⟨(some 22), (.alloc [(.int .i64), (.lst 2)] [(.d (.int .i64 0)), (.nilL 2)]), [],
  none⟩, ⟨none, (.store 2 (.t 22) (.t 135)), [4, 3, 0, 1, 2, 3, 4], none⟩]) (.seq (some [2, 4, 7, 16, 17, 21, 22]) (.seq none (.region false [⟨(some 136), (.faddr 0 (.t 2)), [], none⟩, ⟨(some 137),
  (.load false 1 (.t 136)), [0], none⟩, ⟨(some 138), (.ibin .i64 .eql (.t 137) (.k (.one (.d (.int .i64 3))))), [1], none⟩]) (.cond (.t 138) (.seq (some [2, 4, 7, 16, 17, 21,
  22]) (.seq none (.region false [⟨(some 139), (.mov (.t 21)), [], none⟩, ⟨(some 140), (.faddr 1 (.t 2)), [], none⟩, ⟨(some 141), (.load false 1 (.t 140)), [1], none⟩, ⟨(some 142),
  (.len false (.t 141)), [2], none⟩, ⟨(some 143), (.ibin .i64 .eql (.t 139) (.t 142)), [0, 3], none⟩]) (.cond (.t 143) (.seq none (.region false [⟨(some 144), (.load true 3 (.t 7)), [], none⟩, ⟨none,
  (.store 3 (.t 4) (.t 144)), [0, 0], none⟩, ⟨(some 5), (.mov (.k (.one (.d (.str ⟨#[]⟩))))), [1, 0, 1], none⟩, ⟨(some 6), (.mov (.k (.one (.d (.bool false))))), [2, 0, 1, 2],
  none⟩]) .ret) .skip)) j60_7) .skip)) j60_8))) j60_11)
def lb60_1 : SCode :=
  (.seq (some [2, 4, 7, 16, 17, 21]) (.seq none (.region false [⟨(some 129), (.mov (.t 18)), [], none⟩]) (.cond (.t 129) .skip (.exit 3))) j60_6)
def j60_12 : SCode :=
  (.seq none (.region false [⟨(some 179), (.load true 3 (.t 7)), [], none⟩, ⟨none, (.store 3 (.t 4) (.t 179)), [0, 0], none⟩, ⟨(some 5), (.mov (.k (.one (.d (.str ⟨#[]⟩))))), [1, 0, 1], none⟩,
  ⟨(some 6), (.mov (.k (.one (.d (.bool false))))), [2, 0, 1, 2], none⟩]) .ret)
def j60_5 : SCode :=
  (.seq (some [4, 7]) (.seq none (.region false [⟨(some 21), (.mov (.k (.one (.d (.int .i64 0))))), [], none⟩]) (.block 3 (.loop [2, 4, 7, 16, 17, 18, 21] lb60_1))) j60_12)
def j60_4 : SCode :=
  (.seq none (.region false [⟨(some 107), (.mov (.t 1)), [], none⟩, ⟨(some 108), (.mov (.t 15)), [], none⟩, ⟨(some 109), (.call 65 [(.t 107), (.t 108)]), [0, 1], none⟩, ⟨(some 106), (.mov (.t 109)),
  [2], none⟩, ⟨(some 110), (.ext (.t 106) 0), [3], none⟩, ⟨(some 111), (.ext (.t 106) 1), [3], none⟩, ⟨(some 17), (.mov (.t 110)), [4, 2, 0, 1, 2, 3, 4], none⟩, ⟨(some 18), (.mov (.t 111)), [5, 6, 0,
  1, 2, 3, 4, 5, 6], none⟩]) (.seq (some [2, 4, 7, 16, 17, 18]) (.seq none (.region false [⟨(some 113), (.mov (.t 17)), [], none⟩, ⟨(some 114), (.mov (.t 16)), [], none⟩, ⟨(some 115),
  (.call 65 [(.t 113), (.t 114)]), [0, 1], none⟩, ⟨(some 112), (.mov (.t 115)), [2], none⟩, ⟨(some 116), (.ext (.t 112) 0), [3], none⟩, ⟨(some 117), (.ext (.t 112) 1), [3], none⟩, ⟨(some 19),
  (.mov (.t 116)), [4, 2, 0, 1, 2, 3, 4], none⟩, ⟨(some 20), (.mov (.t 117)), [5, 6, 0, 1, 2, 3, 4, 5, 6], none⟩]) (.seq none (.region false [⟨(some 118), (.mov (.t 18)), [], none⟩, ⟨(some 119),
  (.mov (.t 118)), [0], none⟩, ⟨(some 120), (.mov (.t 20)), [1], (some (1, (119, true)))⟩, ⟨(some 121), (.pick (.t 119) (.t 120) (.k (.one (.d (.bool false))))), [1, 2], none⟩, ⟨(some 122),
  (.mov (.t 121)), [3, 1], none⟩, ⟨(some 123), (.faddr 0 (.t 2)), [4], (some (4, (122, true)))⟩, ⟨(some 124), (.load false 1 (.t 123)), [5, 4], (some (4, (122, true)))⟩, ⟨(some 125),
  (.ibin .i64 .eql (.t 124) (.k (.one (.d (.int .i64 4))))), [6, 4], (some (4, (122, true)))⟩, ⟨(some 126), (.pick (.t 122) (.t 125) (.k (.one (.d (.bool false))))), [4, 7],
  none⟩]) (.cond (.t 126) (.seq none (.region false [⟨(some 127), (.load true 3 (.t 7)), [], none⟩, ⟨(some 128), (.mov (.t 19)), [], none⟩, ⟨none, (.store 3 (.t 4) (.t 127)), [0, 0], none⟩, ⟨(some 5),
  (.mov (.t 128)), [1, 2, 0, 1, 2], none⟩, ⟨(some 6), (.mov (.k (.one (.d (.bool true))))), [3, 0, 1, 2, 3], none⟩]) .ret) .skip))) j60_5))
def j60_3 : SCode :=
  (.seq none (.region false [⟨(some 15), (.mov (.k (.one (.d (.str ⟨#[40]⟩))))), [], none⟩, ⟨(some 16), (.mov (.k (.one (.d (.str ⟨#[41]⟩))))), [0, 0], none⟩]) (.seq (some [1, 2, 4, 7, 15,
  16]) (.seq none (.region false [⟨(some 103), (.faddr 0 (.t 2)), [], none⟩, ⟨(some 104), (.load false 1 (.t 103)), [0], none⟩, ⟨(some 105), (.ibin .i64 .eql (.t 104) (.k (.one (.d (.int .i64 4))))),
  [1], none⟩]) (.cond (.t 105) (.region false [⟨(some 15), (.mov (.k (.one (.d (.str ⟨#[91]⟩))))), [], none⟩, ⟨(some 16), (.mov (.k (.one (.d (.str ⟨#[93]⟩))))), [0, 0], none⟩]) .skip)) j60_4))
def sf60 : SFunc :=
  ⟨2, [(.cell true 3 4), (.tmp 5), (.tmp 6)], (.seq none (.region false [⟨(some 2), (.box [(.int .i64), (.lst 2)] (.t 0)), [], none⟩, ⟨(some 4), (.alloc [(.int .i64), (.int .i64),
  (.lst 3)] [(.d (.int .i64 0)), (.d (.int .i64 0)), (.nilL 3)]), [], none⟩, ⟨(some 5), (.mov (.k (.one (.d (.str ⟨#[]⟩))))), [], none⟩, ⟨(some 6), (.mov (.k (.one (.d (.bool false))))), [2],
  none⟩]) (.seq none (.region false [⟨(some 26), (.faddr 0 (.t 2)), [], none⟩, ⟨(some 27), (.load false 1 (.t 26)), [0], none⟩, ⟨(some 28), (.build [(.d (.int .i64 0)), (.d (.int .i64 0)),
  (.nilL 3)] [(0, (1, (.t 27)))]), [1], none⟩, ⟨(some 7), (.alloc [(.int .i64), (.int .i64), (.lst 3)] [(.d (.int .i64 0)), (.d (.int .i64 0)), (.nilL 3)]), [], none⟩, ⟨none,
  (.store 3 (.t 7) (.t 28)), [3, 2, 0, 1, 2, 3], none⟩]) (.seq (some [1, 2, 4, 7]) (.seq none (.region false [⟨(some 29), (.faddr 0 (.t 2)), [], none⟩, ⟨(some 30), (.load false 1 (.t 29)), [0],
  none⟩]) (.block 0 (.seq none (.region false [⟨(some 32), (.ibin .i64 .eql (.t 30) (.k (.one (.d (.int .i64 1))))), [], none⟩, ⟨(some 31), (.mov (.t 32)), [0], none⟩]) (.cond (.t 31) (.seq (some [1,
  4, 7]) (.seq none (.region false [⟨(some 34), (.mov (.t 1)), [], none⟩, ⟨(some 35), (.call 65 [(.t 34), (.k (.one (.d (.str ⟨#[116, 114, 117, 101]⟩))))]), [0], none⟩, ⟨(some 33), (.mov (.t 35)),
  [1], none⟩, ⟨(some 36), (.ext (.t 33) 0), [2], none⟩, ⟨(some 37), (.ext (.t 33) 1), [2], none⟩, ⟨(some 8), (.mov (.t 36)), [3, 1, 0, 1, 2, 3], none⟩, ⟨(some 9), (.mov (.t 37)), [4, 5, 0, 1, 2, 3, 4,
  5], none⟩]) (.seq none (.region false [⟨(some 38), (.mov (.t 9)), [], none⟩]) (.cond (.t 38) (.seq none (.region false [⟨(some 39), (.faddr 1 (.t 7)), [], none⟩, ⟨none,
  (.store 1 (.t 39) (.k (.one (.d (.int .i64 1))))), [0], none⟩]) (.seq none (.region false [⟨(some 40), (.load true 3 (.t 7)), [], none⟩, ⟨(some 41), (.mov (.t 8)), [], none⟩, ⟨none,
  (.store 3 (.t 4) (.t 40)), [0, 0], none⟩, ⟨(some 5), (.mov (.t 41)), [1, 2, 0, 1, 2], none⟩, ⟨(some 6), (.mov (.k (.one (.d (.bool true))))), [3, 0, 1, 2, 3],
  none⟩]) .ret)) .skip))) j60_0) (.seq none (.region false [⟨(some 51), (.ibin .i64 .eql (.t 30) (.k (.one (.d (.int .i64 2))))), [], none⟩, ⟨(some 50), (.mov (.t 51)), [0],
  none⟩]) (.cond (.t 50) (.seq none (.region false [⟨(some 12), (.mov (.k (.one (.d (.int .i64 0))))), [], none⟩]) (.seq (some [1, 4, 7, 12]) (.block 1 (.loop [1, 4, 7,
  12] lb60_0)) j60_2)) .skip)))))) j60_3)))⟩
theorem c60 : compFunc Tryd.prog [none, none, some [1, 2, 4, 7], none, none, some [1, 4, 7], none, none, none, none, none, none, none, none, some [1, 4, 7, 12], some [1, 4, 7, 12], some [1, 4, 7, 12], none, none, none, none, none, some [1, 2, 4, 7, 15, 16], none, none, some [2, 4, 7, 16, 17, 18], none, none, none, some [4, 7], none, some [2, 4, 7, 16, 17, 18, 21], some [2, 4, 7, 16, 17, 21], none, some [2, 4, 7, 16, 17, 18, 21], none, some [2, 4, 7, 16, 17, 21, 22], none, some [2, 4, 7, 16, 17, 21, 22], none, none, none, some [2, 4, 7, 16, 17, 21, 23], none, none, none, some [2, 4, 7, 16, 17, 21], none, none, none, none] Tryd.f60 = some sf60 := by kernel_rfl
/-! sortilege/sortilegeref03.read -/
def j61_0 : SCode :=
  (.seq none (.region true [⟨(some 33), (.faddr 0 (.t 3)), [], none⟩, ⟨(some 34), (.load false 1 (.t 33)), [0], none⟩, ⟨(some 35), (.build [(.d (.int .i64 0)), (.d (.int .i64 0)), (.nilL 3)] [(0, (1,
  (.t 34)))]), [1], none⟩, ⟨(some 36), (.mov (.t 2)), [], none⟩, ⟨(some 37), (.ibin .i64 .add (.t 36) (.k (.one (.d (.int .i64 5))))), [3], none⟩, ⟨(some 38), (.mov (.t 1)), [], none⟩, ⟨(some 39),
  (.mov (.t 2)), [], none⟩, ⟨(some 40), (.call 66 [(.t 38), (.t 39), (.k (.one (.d (.str ⟨#[102, 97, 108, 115, 101]⟩))))]), [5, 6], none⟩, ⟨none, (.store 3 (.t 6) (.t 35)), [2, 7, 0, 1, 2], none⟩,
  ⟨(some 7), (.mov (.t 37)), [4, 8, 0, 1, 2, 3, 4, 8], none⟩, ⟨(some 8), (.mov (.t 40)), [7, 9, 0, 1, 2, 3, 4, 5, 6, 7, 8, 9], none⟩]) .ret)
def j61_6 : SCode :=
  (.region false [⟨(some 101), (.faddr 1 (.t 3)), [], none⟩, ⟨(some 102), (.load false 1 (.t 101)), [0], none⟩, ⟨(some 103), (.faddr 2 (.t 15)), [], none⟩, ⟨(some 104), (.load false 1 (.t 103)), [2],
  none⟩, ⟨(some 105), (.len false (.t 104)), [3], none⟩, ⟨(some 106), (.iaddr 2 (.t 102) (.t 105)), [1, 4], none⟩, ⟨(some 107), (.load true 2 (.t 106)), [5], none⟩, ⟨none, (.store 2 (.t 16) (.t 107)),
  [6, 0, 1, 2, 3, 4, 5, 6], none⟩])
def j61_9 : SCode :=
  (.region false [⟨(some 151), (.mov (.t 2)), [], none⟩, ⟨(some 152), (.ibin .i64 .add (.t 151) (.k (.one (.d (.int .i64 2))))), [0], none⟩, ⟨(some 2), (.mov (.t 152)), [1, 0, 1], none⟩])
def j61_8 : SCode :=
  (.seq none (.region false [⟨(some 119), (.faddr 2 (.t 15)), [], none⟩, ⟨(some 120), (.load false 1 (.t 119)), [0], none⟩, ⟨(some 121), (.load true 3 (.t 17)), [], none⟩, ⟨(some 122),
  (.lit 36 3 [(.t 121)]), [2], none⟩, ⟨(some 123), (.app 36 3 40 (.t 120) (.t 122)), [1, 3], none⟩, ⟨(some 124), (.faddr 2 (.t 15)), [0, 1, 2, 3, 4], none⟩, ⟨none, (.store 1 (.t 124) (.t 123)), [5, 4,
  4, 0, 1, 2, 3, 4], none⟩]) (.seq none (.region false [⟨(some 125), (.mov (.t 18)), [], none⟩, ⟨(some 2), (.mov (.t 125)), [0, 0], none⟩]) (.seq (some [1, 2, 3, 6, 9, 14,
  15]) (.seq none (.region false [⟨(some 126), (.mov (.t 1)), [], none⟩, ⟨(some 127), (.mov (.t 2)), [], none⟩, ⟨(some 128), (.call 66 [(.t 126), (.t 127), (.k (.one (.d (.str ⟨#[44, 32]⟩))))]), [0,
  1], none⟩, ⟨(some 129), (.inot (.t 128)), [2], none⟩]) (.cond (.t 129) (.seq none (.region true [⟨(some 130), (.load true 3 (.t 15)), [], none⟩, ⟨(some 131), (.mov (.t 2)), [], none⟩, ⟨(some 132),
  (.ibin .i64 .add (.t 131) (.k (.one (.d (.int .i64 1))))), [1], none⟩, ⟨(some 133), (.mov (.t 1)), [], none⟩, ⟨(some 134), (.mov (.t 2)), [], none⟩, ⟨(some 135), (.mov (.t 14)), [], none⟩,
  ⟨(some 136), (.call 66 [(.t 133), (.t 134), (.t 135)]), [3, 4, 5], none⟩, ⟨(some 137), (.mov (.t 136)), [6, 6], none⟩, ⟨(some 138), (.faddr 0 (.t 3)), [7], (some (7, (137, true)))⟩, ⟨(some 139),
  (.load false 1 (.t 138)), [8, 7], (some (7, (137, true)))⟩, ⟨(some 140), (.ibin .i64 .eql (.t 139) (.k (.one (.d (.int .i64 4))))), [9, 7], (some (7, (137, true)))⟩, ⟨(some 141), (.mov (.t 140)),
  [10, 7, 7], (some (7, (137, true)))⟩, ⟨(some 142), (.faddr 2 (.t 15)), [11], (some (11, (141, false)))⟩, ⟨(some 143), (.load false 1 (.t 142)), [12, 11], (some (11, (141, false)))⟩, ⟨(some 144),
  (.len false (.t 143)), [13, 11], (some (11, (141, false)))⟩, ⟨(some 145), (.faddr 1 (.t 3)), [11], (some (11, (141, false)))⟩, ⟨(some 146), (.load false 1 (.t 145)), [15, 11], (some (11, (141,
  false)))⟩, ⟨(some 147), (.len false (.t 146)), [16, 11], (some (11, (141, false)))⟩, ⟨(some 148), (.ibin .i64 .eql (.t 144) (.t 147)), [14, 17, 11], (some (11, (141, false)))⟩, ⟨(some 149),
  (.pick (.t 141) (.k (.one (.d (.bool true)))) (.t 148)), [11, 18, 7], (some (7, (137, true)))⟩, ⟨(some 150), (.pick (.t 137) (.t 149) (.k (.one (.d (.bool false))))), [7, 19], none⟩, ⟨none,
  (.store 3 (.t 6) (.t 130)), [0, 11, 0], none⟩, ⟨(some 7), (.mov (.t 132)), [2, 21, 0, 1, 2, 21], none⟩, ⟨(some 8), (.mov (.t 150)), [20, 22, 0, 1, 2, 3, 4, 5, 6, 7, 8, 9, 10, 11, 12, 13, 14, 15, 16,
  17, 18, 19, 20, 21, 22], none⟩]) .ret) .skip)) j61_9)))
def j61_7 : SCode :=
  (.seq none (.region false [⟨(some 109), (.load true 2 (.t 16)), [], none⟩, ⟨(some 110), (.mov (.t 1)), [], none⟩, ⟨(some 111), (.mov (.t 2)), [], none⟩, ⟨(some 112), (.call 61 [(.t 109), (.t 110),
  (.t 111)]), [0, 1, 2], none⟩, ⟨(some 108), (.mov (.t 112)), [3], none⟩, ⟨(some 113), (.ext (.t 108) 0), [4], none⟩, ⟨(some 114), (.ext (.t 108) 1), [4], none⟩, ⟨(some 115), (.ext (.t 108) 2), [4],
  none⟩, ⟨(some 17), (.alloc [(.int .i64), (.int .i64), (.lst 3)] [(.d (.int .i64 0)), (.d (.int .i64 0)), (.nilL 3)]), [], none⟩, ⟨none, (.store 3 (.t 17) (.t 113)), [8, 5, 3, 0, 1, 2, 3, 4, 5, 8],
  none⟩, ⟨(some 18), (.mov (.t 114)), [6, 9, 0, 1, 2, 3, 4, 5, 6, 8, 9], none⟩, ⟨(some 19), (.mov (.t 115)), [7, 10, 0, 1, 2, 3, 4, 5, 6, 7, 8, 9, 10], none⟩]) (.seq (some [1, 3, 6, 9, 14, 15, 17,
  18]) (.seq none (.region false [⟨(some 116), (.mov (.t 19)), [], none⟩, ⟨(some 117), (.inot (.t 116)), [0], none⟩]) (.cond (.t 117) (.seq none (.region false [⟨(some 118), (.load true 3 (.t 9)), [],
  none⟩, ⟨none, (.store 3 (.t 6) (.t 118)), [0, 0], none⟩, ⟨(some 7), (.mov (.k (.one (.d (.int .i64 0))))), [1, 0, 1], none⟩, ⟨(some 8), (.mov (.k (.one (.d (.bool false))))), [2, 0, 1, 2],
  none⟩]) .ret) .skip)) j61_8))
def j61_5 : SCode :=
  (.block 2 (.seq none (.region false [⟨(some 86), (.faddr 1 (.t 3)), [], none⟩, ⟨(some 87), (.load false 1 (.t 86)), [0], none⟩, ⟨(some 88), (.iaddr 2 (.t 87) (.k (.one (.d (.int .i64 0))))), [1],
  none⟩, ⟨(some 89), (.load true 2 (.t 88)), [2], none⟩, ⟨(some 16), (.alloc [(.int .i64), (.lst 2)] [(.d (.int .i64 0)), (.nilL 2)]), [], none⟩, ⟨none, (.store 2 (.t 16) (.t 89)), [4, 3, 0, 1, 2, 3,
  4], none⟩]) (.seq (some [1, 2, 3, 6, 9, 14, 15, 16]) (.seq none (.region false [⟨(some 90), (.faddr 0 (.t 3)), [], none⟩, ⟨(some 91), (.load false 1 (.t 90)), [0], none⟩, ⟨(some 92),
  (.ibin .i64 .eql (.t 91) (.k (.one (.d (.int .i64 3))))), [1], none⟩]) (.cond (.t 92) (.seq (some [1, 2, 3, 6, 9, 14, 15, 16]) (.seq none (.region false [⟨(some 93), (.faddr 2 (.t 15)), [], none⟩,
  ⟨(some 94), (.load false 1 (.t 93)), [0], none⟩, ⟨(some 95), (.len false (.t 94)), [1], none⟩, ⟨(some 96), (.faddr 1 (.t 3)), [], none⟩, ⟨(some 97), (.load false 1 (.t 96)), [3], none⟩, ⟨(some 98),
  (.len false (.t 97)), [4], none⟩, ⟨(some 99), (.ibin .i64 .geq (.t 95) (.t 98)), [2, 5], none⟩]) (.cond (.t 99) (.seq none (.region false [⟨(some 100), (.load true 3 (.t 9)), [], none⟩, ⟨none,
  (.store 3 (.t 6) (.t 100)), [0, 0], none⟩, ⟨(some 7), (.mov (.k (.one (.d (.int .i64 0))))), [1, 0, 1], none⟩, ⟨(some 8), (.mov (.k (.one (.d (.bool false))))), [2, 0, 1, 2],
  none⟩]) .ret) .skip)) j61_6) .skip)) j61_7)))
def lb61_0 : SCode :=
  (.seq (some [1, 2, 3, 6, 9, 14, 15]) (.seq none (.region false [⟨(some 82), (.faddr 2 (.t 15)), [], none⟩, ⟨(some 83), (.load false 1 (.t 82)), [0], none⟩, ⟨(some 84), (.len false (.t 83)), [1],
  none⟩, ⟨(some 85), (.ibin .i64 .lss (.t 84) (.k (.one (.d (.int .i64 32))))), [2], none⟩]) (.cond (.t 85) .skip (.exit 1))) j61_5)
def j61_10 : SCode :=
  (.seq none (.region false [⟨(some 153), (.load true 3 (.t 9)), [], none⟩, ⟨none, (.store 3 (.t 6) (.t 153)), [0, 0], none⟩, ⟨(some 7), (.mov (.k (.one (.d (.int .i64 0))))), [1, 0, 1], none⟩,
  ⟨(some 8), (.mov (.k (.one (.d (.bool false))))), [2, 0, 1, 2], none⟩]) .ret)
def j61_4 : SCode :=
  (.seq (some [6, 9]) (.block 1 (.loop [1, 2, 3, 6, 9, 14, 15] lb61_0)) j61_10)
def j61_3 : SCode :=
  (.seq none (.region false [⟨(some 65), (.faddr 0 (.t 3)), [], none⟩, ⟨(some 66), (.load false 1 (.t 65)), [0], none⟩, ⟨(some 67), (.build [(.d (.int .i64 0)), (.d (.int .i64 0)), (.nilL 3)] [(0, (1,
  (.t 66)))]), [1], none⟩, ⟨(some 15), (.alloc [(.int .i64), (.int .i64), (.lst 3)] [(.d (.int .i64 0)), (.d (.int .i64 0)), (.nilL 3)]), [], none⟩, ⟨none, (.store 3 (.t 15) (.t 67)), [3, 2, 0, 1, 2,
  3], none⟩]) (.seq none (.region false [⟨(some 68), (.mov (.t 2)), [], none⟩, ⟨(some 69), (.ibin .i64 .add (.t 68) (.k (.one (.d (.int .i64 1))))), [0], none⟩, ⟨(some 2), (.mov (.t 69)), [1, 0, 1],
  none⟩]) (.seq (some [1, 2, 3, 6, 9, 14, 15]) (.seq none (.region false [⟨(some 70), (.faddr 0 (.t 3)), [], none⟩, ⟨(some 71), (.load false 1 (.t 70)), [0], none⟩, ⟨(some 72),
  (.ibin .i64 .eql (.t 71) (.k (.one (.d (.int .i64 4))))), [1], none⟩, ⟨(some 73), (.mov (.t 72)), [2], none⟩, ⟨(some 74), (.mov (.t 1)), [3], (some (3, (73, true)))⟩, ⟨(some 75), (.mov (.t 2)), [3],
  (some (3, (73, true)))⟩, ⟨(some 76), (.mov (.t 14)), [3], (some (3, (73, true)))⟩, ⟨(some 77), (.call 66 [(.t 74), (.t 75), (.t 76)]), [4, 5, 6, 3, 3], (some (3, (73, true)))⟩, ⟨(some 78),
  (.pick (.t 73) (.t 77) (.k (.one (.d (.bool false))))), [3, 7], none⟩]) (.cond (.t 78) (.seq none (.region false [⟨(some 79), (.load true 3 (.t 15)), [], none⟩, ⟨(some 80), (.mov (.t 2)), [], none⟩,
  ⟨(some 81), (.ibin .i64 .add (.t 80) (.k (.one (.d (.int .i64 1))))), [1], none⟩, ⟨none, (.store 3 (.t 6) (.t 79)), [0, 0], none⟩, ⟨(some 7), (.mov (.t 81)), [2, 3, 0, 1, 2, 3], none⟩, ⟨(some 8),
  (.mov (.k (.one (.d (.bool true))))), [4, 0, 1, 2, 3, 4], none⟩]) .ret) .skip)) j61_4)))
def j61_2 : SCode :=
  (.seq (some [1, 2, 3, 6, 9, 14]) (.seq none (.region false [⟨(some 59), (.mov (.t 1)), [], none⟩, ⟨(some 60), (.mov (.t 2)), [], none⟩, ⟨(some 61), (.mov (.t 13)), [], none⟩, ⟨(some 62),
  (.call 66 [(.t 59), (.t 60), (.t 61)]), [0, 1, 2], none⟩, ⟨(some 63), (.inot (.t 62)), [3], none⟩]) (.cond (.t 63) (.seq none (.region false [⟨(some 64), (.load true 3 (.t 9)), [], none⟩, ⟨none,
  (.store 3 (.t 6) (.t 64)), [0, 0], none⟩, ⟨(some 7), (.mov (.k (.one (.d (.int .i64 0))))), [1, 0, 1], none⟩, ⟨(some 8), (.mov (.k (.one (.d (.bool false))))), [2, 0, 1, 2],
  none⟩]) .ret) .skip)) j61_3)
def j61_1 : SCode :=
  (.seq none (.region false [⟨(some 13), (.mov (.k (.one (.d (.str ⟨#[91]⟩))))), [], none⟩, ⟨(some 14), (.mov (.k (.one (.d (.str ⟨#[93]⟩))))), [0, 0], none⟩]) (.seq (some [1, 2, 3, 6, 9, 13,
  14]) (.seq none (.region false [⟨(some 56), (.faddr 0 (.t 3)), [], none⟩, ⟨(some 57), (.load false 1 (.t 56)), [0], none⟩, ⟨(some 58), (.ibin .i64 .eql (.t 57) (.k (.one (.d (.int .i64 3))))), [1],
  none⟩]) (.cond (.t 58) (.region false [⟨(some 13), (.mov (.k (.one (.d (.str ⟨#[40]⟩))))), [], none⟩, ⟨(some 14), (.mov (.k (.one (.d (.str ⟨#[41]⟩))))), [0, 0], none⟩]) .skip)) j61_2))
def sf61 : SFunc :=
  ⟨3, [(.cell true 3 6), (.tmp 7), (.tmp 8)], (.seq none (.region false [⟨(some 3), (.box [(.int .i64), (.lst 2)] (.t 0)), [], none⟩, ⟨(some 6), (.alloc [(.int .i64), (.int .i64),
  (.lst 3)] [(.d (.int .i64 0)), (.d (.int .i64 0)), (.nilL 3)]), [], none⟩, ⟨(some 7), (.mov (.k (.one (.d (.int .i64 0))))), [], none⟩, ⟨(some 8), (.mov (.k (.one (.d (.bool false))))), [2],
  none⟩]) (.seq none (.region false [⟨(some 20), (.build [(.d (.int .i64 0)), (.d (.int .i64 0)), (.nilL 3)] []), [], none⟩, ⟨(some 9), (.alloc [(.int .i64), (.int .i64),
  (.lst 3)] [(.d (.int .i64 0)), (.d (.int .i64 0)), (.nilL 3)]), [], none⟩, ⟨none, (.store 3 (.t 9) (.t 20)), [1, 0, 0, 1], none⟩]) (.seq (some [1, 2, 3, 6, 9]) (.seq none (.region false [⟨(some 21),
  (.faddr 0 (.t 3)), [], none⟩, ⟨(some 22), (.load false 1 (.t 21)), [0], none⟩]) (.block 0 (.seq none (.region false [⟨(some 24), (.ibin .i64 .eql (.t 22) (.k (.one (.d (.int .i64 1))))), [], none⟩,
  ⟨(some 23), (.mov (.t 24)), [0], none⟩]) (.cond (.t 23) (.seq (some [1, 2, 3, 6]) (.seq none (.region false [⟨(some 25), (.mov (.t 1)), [], none⟩, ⟨(some 26), (.mov (.t 2)), [], none⟩, ⟨(some 27),
  (.call 66 [(.t 25), (.t 26), (.k (.one (.d (.str ⟨#[116, 114, 117, 101]⟩))))]), [0, 1], none⟩]) (.cond (.t 27) (.seq none (.region false [⟨(some 28), (.faddr 0 (.t 3)), [], none⟩, ⟨(some 29),
  (.load false 1 (.t 28)), [0], none⟩, ⟨(some 30), (.build [(.d (.int .i64 0)), (.d (.int .i64 0)), (.nilL 3)] [(0, (1, (.t 29))), (1, (1, (.k (.one (.d (.int .i64 1))))))]), [1], none⟩, ⟨(some 31),
  (.mov (.t 2)), [], none⟩, ⟨(some 32), (.ibin .i64 .add (.t 31) (.k (.one (.d (.int .i64 4))))), [3], none⟩, ⟨none, (.store 3 (.t 6) (.t 30)), [2, 0, 1, 2], none⟩, ⟨(some 7), (.mov (.t 32)), [4, 5,
  0, 1, 2, 3, 4, 5], none⟩, ⟨(some 8), (.mov (.k (.one (.d (.bool true))))), [6, 0, 1, 2, 3, 4, 5, 6], none⟩]) .ret) .skip)) j61_0) (.seq none (.region false [⟨(some 42),
  (.ibin .i64 .eql (.t 22) (.k (.one (.d (.int .i64 2))))), [], none⟩, ⟨(some 41), (.mov (.t 42)), [0], none⟩]) (.cond (.t 41) (.seq none (.region false [⟨(some 44), (.mov (.t 1)), [], none⟩,
  ⟨(some 45), (.mov (.t 2)), [], none⟩, ⟨(some 46), (.call 79 [(.t 44), (.t 45)]), [0, 1], none⟩, ⟨(some 43), (.mov (.t 46)), [2], none⟩, ⟨(some 47), (.ext (.t 43) 0), [3], none⟩, ⟨(some 48),
  (.ext (.t 43) 1), [3], none⟩, ⟨(some 49), (.ext (.t 43) 2), [3], none⟩, ⟨(some 10), (.mov (.t 47)), [4, 2, 0, 1, 2, 3, 4], none⟩, ⟨(some 11), (.mov (.t 48)), [5, 7, 0, 1, 2, 3, 4, 5, 7], none⟩,
  ⟨(some 12), (.mov (.t 49)), [6, 8, 0, 1, 2, 3, 4, 5, 6, 7, 8], none⟩]) (.seq none (.region false [⟨(some 50), (.faddr 0 (.t 3)), [], none⟩, ⟨(some 51), (.load false 1 (.t 50)), [0], none⟩,
  ⟨(some 52), (.mov (.t 10)), [], none⟩, ⟨(some 53), (.build [(.d (.int .i64 0)), (.d (.int .i64 0)), (.nilL 3)] [(0, (1, (.t 51))), (1, (1, (.t 52)))]), [1, 2], none⟩, ⟨(some 54), (.mov (.t 11)), [],
  none⟩, ⟨(some 55), (.mov (.t 12)), [], none⟩, ⟨none, (.store 3 (.t 6) (.t 53)), [3, 0, 1, 2, 3], none⟩, ⟨(some 7), (.mov (.t 54)), [4, 6, 0, 1, 2, 3, 4, 6], none⟩, ⟨(some 8), (.mov (.t 55)), [5, 7,
  0, 1, 2, 3, 4, 5, 6, 7], none⟩]) .ret)) .skip)))))) j61_1)))⟩
theorem c61 : compFunc Tryd.prog [none, none, some [1, 2, 3, 6, 9], none, none, some [1, 2, 3, 6], none, none, none, none, none, none, none, some [1, 2, 3, 6, 9, 13, 14], none, some [1, 2, 3, 6, 9, 14], none, none, none, none, some [1, 2, 3, 6, 9, 14, 15], none, none, some [6, 9], some [1, 2, 3, 6, 9, 14, 15], some [1, 2, 3, 6, 9, 14, 15], none, none, some [1, 2, 3, 6, 9, 14, 15, 16], none, some [1, 2, 3, 6, 9, 14, 15, 16], none, none, none, some [1, 3, 6, 9, 14, 15, 17, 18], none, none, none, none, some [1, 2, 3, 6, 9, 14, 15], none, none, none] Tryd.f61 = some sf61 := by kernel_rfl
/-! strconv.FormatBool -/
def sf62 : SFunc :=
  ⟨1, [(.tmp 2)], (.seq none (.region false [⟨(some 2), (.mov (.k (.one (.d (.str ⟨#[]⟩))))), [], none⟩]) (.seq none (.region false [⟨(some 3), (.mov (.t 0)), [], none⟩, ⟨(some 4), (.call 80 [(.t 3)]),
  [0], none⟩, ⟨(some 2), (.mov (.t 4)), [1, 1, 0, 1], none⟩]) .ret))⟩
theorem c62 : compFunc Tryd.prog [none, none] Tryd.f62 = some sf62 := by kernel_rfl
/-! strconv.Itoa -/
def sf63 : SFunc :=
  ⟨1, [(.tmp 2)], (.seq none (.region false [⟨(some 2), (.mov (.k (.one (.d (.str ⟨#[]⟩))))), [], none⟩]) (.seq none (.region false [⟨(some 3), (.mov (.t 0)), [], none⟩, ⟨(some 4), (.call 81 [(.t 3)]),
  [0], none⟩, ⟨(some 2), (.mov (.t 4)), [1, 1, 0, 1], none⟩]) .ret))⟩
theorem c63 : compFunc Tryd.prog [none, none] Tryd.f63 = some sf63 := by kernel_rfl
/-! sortilege/sortilegeref03.number -/
def j64_0 : SCode :=
  (.seq none (.region false [⟨(some 12), (.mov (.t 0)), [], none⟩, ⟨(some 13), (.conv .i64 .u64 (.t 12)), [0], none⟩, ⟨(some 14), (.call 82 [(.t 13)]), [1], none⟩, ⟨(some 2), (.mov (.t 14)), [2, 2, 0,
  1, 2], none⟩]) .ret)
def sf64 : SFunc :=
  ⟨1, [(.tmp 2)], (.seq none (.region false [⟨(some 2), (.mov (.k (.one (.d (.str ⟨#[]⟩))))), [], none⟩]) (.seq (some [0]) (.seq none (.region false [⟨(some 3), (.mov (.t 0)), [], none⟩, ⟨(some 4),
  (.ibin .i64 .lss (.t 3) (.k (.one (.d (.int .i64 0))))), [0], none⟩]) (.cond (.t 4) (.seq none (.region false [⟨(some 5), (.mov (.t 0)), [], none⟩, ⟨(some 6),
  (.ibin .i64 .add (.t 5) (.k (.one (.d (.int .i64 1))))), [0], none⟩, ⟨(some 7), (.ineg .i64 (.t 6)), [1], none⟩, ⟨(some 8), (.conv .i64 .u64 (.t 7)), [2], none⟩, ⟨(some 9),
  (.ibin .u64 .add (.t 8) (.k (.one (.d (.int .u64 1))))), [3], none⟩, ⟨(some 10), (.call 82 [(.t 9)]), [4], none⟩, ⟨(some 11), (.sbin .add (.k (.one (.d (.str ⟨#[45]⟩)))) (.t 10)), [5], none⟩,
  ⟨(some 2), (.mov (.t 11)), [6, 5, 0, 1, 2, 3, 4, 5, 6], none⟩]) .ret) .skip)) j64_0))⟩
theorem c64 : compFunc Tryd.prog [none, some [0], none, none, none] Tryd.f64 = some sf64 := by kernel_rfl
/-! strings.CutPrefix -/
def sf65 : SFunc :=
  ⟨2, [(.tmp 4), (.tmp 5)], (.seq none (.region false [⟨(some 4), (.mov (.k (.one (.d (.str ⟨#[]⟩))))), [], none⟩, ⟨(some 5), (.mov (.k (.one (.d (.bool false))))), [0],
  none⟩]) (.seq none (.region false [⟨(some 6), (.mov (.t 0)), [], none⟩, ⟨(some 7), (.mov (.t 1)), [], none⟩, ⟨(some 8), (.call 83 [(.t 6), (.t 7)]), [0, 1], none⟩, ⟨(some 9), (.ext (.t 8) 0), [2],
  none⟩, ⟨(some 10), (.ext (.t 8) 1), [2], none⟩, ⟨(some 4), (.mov (.t 9)), [3, 2, 0, 1, 2, 3, 4], none⟩, ⟨(some 5), (.mov (.t 10)), [4, 5, 0, 1, 2, 3, 4, 5], none⟩]) .ret))⟩
theorem c65 : compFunc Tryd.prog [none, none] Tryd.f65 = some sf65 := by kernel_rfl
/-! sortilege/sortilegeref03.begins -/
def sf66 : SFunc :=
  ⟨3, [(.tmp 6)], (.seq none (.region false [⟨(some 6), (.mov (.k (.one (.d (.bool false))))), [], none⟩]) (.seq none (.region false [⟨(some 7), (.mov (.t 1)), [], none⟩, ⟨(some 8), (.mov (.t 2)), [],
  none⟩, ⟨(some 9), (.len true (.t 8)), [1], none⟩, ⟨(some 10), (.ibin .i64 .add (.t 7) (.t 9)), [0, 2], none⟩, ⟨(some 11), (.mov (.t 0)), [], none⟩, ⟨(some 12), (.len true (.t 11)), [4], none⟩,
  ⟨(some 13), (.ibin .i64 .leq (.t 10) (.t 12)), [3, 5], none⟩, ⟨(some 14), (.mov (.t 13)), [6], none⟩, ⟨(some 15), (.mov (.t 0)), [7], (some (7, (14, true)))⟩, ⟨(some 16), (.mov (.t 1)), [7],
  (some (7, (14, true)))⟩, ⟨(some 17), (.mov (.t 1)), [7], (some (7, (14, true)))⟩, ⟨(some 18), (.mov (.t 2)), [7], (some (7, (14, true)))⟩, ⟨(some 19), (.len true (.t 18)), [11, 7], (some (7, (14,
  true)))⟩, ⟨(some 20), (.ibin .i64 .add (.t 17) (.t 19)), [10, 12, 7], (some (7, (14, true)))⟩, ⟨(some 21), (.sub (.t 15) (some (.t 16)) (some (.t 20))), [8, 9, 13, 7], (some (7, (14, true)))⟩,
  ⟨(some 22), (.mov (.t 2)), [7], (some (7, (14, true)))⟩, ⟨(some 23), (.sbin .eql (.t 21) (.t 22)), [14, 15, 7], (some (7, (14, true)))⟩, ⟨(some 24),
  (.pick (.t 14) (.t 23) (.k (.one (.d (.bool false))))), [7, 16], none⟩, ⟨(some 6), (.mov (.t 24)), [17, 7, 0, 1, 2, 3, 4, 5, 6, 7, 8, 9, 10, 11, 12, 13, 14, 15, 16, 17], none⟩]) .ret))⟩
theorem c66 : compFunc Tryd.prog [none, none] Tryd.f66 = some sf66 := by kernel_rfl
/-! slices.ContainsFunc[[]sortilege/api.Type,sortilege/api.Type] -/
def sf67 : SFunc :=
  ⟨2, [(.tmp 4)], (.seq none (.region false [⟨(some 4), (.mov (.k (.one (.d (.bool false))))), [], none⟩]) (.seq none (.region false [⟨(some 5), (.mov (.t 0)), [], none⟩, ⟨(some 6), (.mov (.t 1)), [],
  none⟩, ⟨(some 7), (.call 84 [(.t 5), (.t 6)]), [0, 1], none⟩, ⟨(some 8), (.ibin .i64 .geq (.t 7) (.k (.one (.d (.int .i64 0))))), [2], none⟩, ⟨(some 4), (.mov (.t 8)), [3, 2, 0, 1, 2, 3],
  none⟩]) .ret))⟩
theorem c67 : compFunc Tryd.prog [none, none] Tryd.f67 = some sf67 := by kernel_rfl
/-! sortilege/value.deep$1 -/
def sf68 : SFunc :=
  ⟨2, [(.tmp 3)], (.seq none (.region false [⟨(some 2), (.box [(.int .i64), (.lst 2)] (.t 0)), [], none⟩, ⟨(some 3), (.mov (.k (.one (.d (.bool false))))), [],
  none⟩]) (.seq none (.region false [⟨(some 4), (.load true 2 (.t 2)), [], none⟩, ⟨(some 5), (.load false 1 (.t 1)), [], none⟩, ⟨(some 6), (.ibin .i64 .sub (.t 5) (.k (.one (.d (.int .i64 1))))), [1],
  none⟩, ⟨(some 7), (.call 45 [(.t 4), (.t 6)]), [0, 2], none⟩, ⟨(some 8), (.inot (.t 7)), [3], none⟩, ⟨(some 3), (.mov (.t 8)), [4, 3, 0, 1, 2, 3, 4], none⟩]) .ret))⟩
theorem c68 : compFunc Tryd.prog [none, none] Tryd.f68 = some sf68 := by kernel_rfl
/-! slices.EqualFunc[[]sortilege/api.Type,[]sortilege/api.Value,sortilege/api.Type,sortilege/api.Value] -/
def j72_2 : SCode :=
  (.region false [⟨(some 31), (.ibin .i64 .add (.t 17) (.k (.one (.d (.int .i64 1))))), [], none⟩, ⟨(some 17), (.mov (.t 31)), [0], none⟩])
def j72_1 : SCode :=
  (.seq (some [1, 2, 15, 16, 17]) (.block 1 (.seq none (.region false [⟨(some 19), (.mov (.t 17)), [], none⟩, ⟨(some 20), (.iaddr 2 (.t 15) (.t 17)), [], none⟩, ⟨(some 21), (.load true 2 (.t 20)), [1],
  none⟩, ⟨(some 8), (.alloc [(.int .i64), (.lst 2)] [(.d (.int .i64 0)), (.nilL 2)]), [], none⟩, ⟨(some 7), (.mov (.t 19)), [0, 0, 1, 2, 3], none⟩, ⟨none, (.store 2 (.t 8) (.t 21)), [3, 2, 4, 0, 1, 2,
  3, 4], none⟩]) (.seq none (.region false [⟨(some 22), (.mov (.t 1)), [], none⟩, ⟨(some 23), (.mov (.t 7)), [], none⟩, ⟨(some 24), (.iaddr 3 (.t 22) (.t 23)), [0, 1], none⟩, ⟨(some 25),
  (.load true 3 (.t 24)), [2], none⟩, ⟨(some 9), (.alloc [(.int .i64), (.int .i64), (.lst 3)] [(.d (.int .i64 0)), (.d (.int .i64 0)), (.nilL 3)]), [], none⟩, ⟨none, (.store 3 (.t 9) (.t 25)), [4, 3,
  0, 1, 2, 3, 4], none⟩]) (.seq none (.region false [⟨(some 26), (.mov (.t 2)), [], none⟩, ⟨(some 27), (.load true 2 (.t 8)), [], none⟩, ⟨(some 28), (.load true 3 (.t 9)), [], none⟩, ⟨(some 29),
  (.callv (.t 26) [(.t 27), (.t 28)]), [0, 1, 2], none⟩, ⟨(some 30), (.inot (.t 29)), [3], none⟩]) (.cond (.t 30) (.seq none (.region false [⟨(some 6), (.mov (.k (.one (.d (.bool false))))), [],
  none⟩]) .ret) .skip))))) j72_2)
def lb72_0 : SCode :=
  (.seq none (.region false [⟨(some 18), (.ibin .i64 .lss (.t 17) (.t 16)), [], none⟩]) (.seq (some [1, 2, 15, 16, 17]) (.cond (.t 18) .skip (.exit 0)) j72_1))
def j72_3 : SCode :=
  (.seq none (.region false [⟨(some 6), (.mov (.k (.one (.d (.bool true))))), [], none⟩]) .ret)
def j72_0 : SCode :=
  (.seq (some []) (.seq none (.region false [⟨(some 15), (.mov (.t 0)), [], none⟩, ⟨(some 16), (.len false (.t 15)), [0], none⟩, ⟨(some 17), (.mov (.k (.one (.d (.int .i64 0))))), [],
  none⟩]) (.block 0 (.loop [1, 2, 15, 16, 17] lb72_0))) j72_3)
def sf72 : SFunc :=
  ⟨3, [(.tmp 6)], (.seq none (.region false [⟨(some 6), (.mov (.k (.one (.d (.bool false))))), [], none⟩]) (.seq (some [0, 1, 2]) (.seq none (.region false [⟨(some 10), (.mov (.t 0)), [], none⟩,
  ⟨(some 11), (.len false (.t 10)), [0], none⟩, ⟨(some 12), (.mov (.t 1)), [], none⟩, ⟨(some 13), (.len false (.t 12)), [2], none⟩, ⟨(some 14), (.ibin .i64 .neq (.t 11) (.t 13)), [1, 3],
  none⟩]) (.cond (.t 14) (.seq none (.region false [⟨(some 6), (.mov (.k (.one (.d (.bool false))))), [], none⟩]) .ret) .skip)) j72_0))⟩
theorem c72 : compFunc Tryd.prog [none, some [0, 1, 2], none, none, some [], none, some [1, 2, 15, 16, 17], none, some [1, 2, 15, 16, 17], some [1, 2, 15, 16, 17], none, none, none, none, none] Tryd.f72 = some sf72 := by kernel_rfl
/-! slices.ContainsFunc[[]sortilege/api.Value,sortilege/api.Value] -/
def sf73 : SFunc :=
  ⟨2, [(.tmp 4)], (.seq none (.region false [⟨(some 4), (.mov (.k (.one (.d (.bool false))))), [], none⟩]) (.seq none (.region false [⟨(some 5), (.mov (.t 0)), [], none⟩, ⟨(some 6), (.mov (.t 1)), [],
  none⟩, ⟨(some 7), (.call 87 [(.t 5), (.t 6)]), [0, 1], none⟩, ⟨(some 8), (.ibin .i64 .geq (.t 7) (.k (.one (.d (.int .i64 0))))), [2], none⟩, ⟨(some 4), (.mov (.t 8)), [3, 2, 0, 1, 2, 3],
  none⟩]) .ret))⟩
theorem c73 : compFunc Tryd.prog [none, none] Tryd.f73 = some sf73 := by kernel_rfl
/-! sortilege/value.has$1 -/
def sf74 : SFunc :=
  ⟨2, [(.tmp 3)], (.seq none (.region false [⟨(some 2), (.box [(.int .i64), (.int .i64), (.lst 3)] (.t 0)), [], none⟩, ⟨(some 3), (.mov (.k (.one (.d (.bool false))))), [],
  none⟩]) (.seq none (.region true [⟨(some 4), (.faddr 1 (.t 1)), [], none⟩, ⟨(some 5), (.load false 1 (.t 4)), [0], none⟩, ⟨(some 6), (.iaddr 2 (.t 5) (.k (.one (.d (.int .i64 0))))), [1], none⟩,
  ⟨(some 7), (.load true 2 (.t 6)), [2], none⟩, ⟨(some 8), (.load true 3 (.t 2)), [], none⟩, ⟨(some 9), (.call 51 [(.t 7), (.t 8)]), [3, 4], none⟩, ⟨(some 10), (.inot (.t 9)), [5], none⟩, ⟨(some 3),
  (.mov (.t 10)), [6, 5, 0, 1, 2, 3, 4, 5, 6], none⟩]) .ret))⟩
theorem c74 : compFunc Tryd.prog [none, none] Tryd.f74 = some sf74 := by kernel_rfl
/-! sortilege/value.join -/
def j75_2 : SCode :=
  (.region false [⟨(some 62), (.faddr 1 (.t 6)), [], none⟩, ⟨(some 63), (.load false 1 (.t 62)), [0], none⟩, ⟨(some 64), (.load true 2 (.t 8)), [], none⟩, ⟨(some 65), (.lit 24 2 [(.t 64)]), [2], none⟩,
  ⟨(some 66), (.app 24 2 32 (.t 63) (.t 65)), [1, 3], none⟩, ⟨(some 67), (.faddr 1 (.t 6)), [0, 1, 2, 3, 4], none⟩, ⟨none, (.store 1 (.t 67) (.t 66)), [5, 4, 4, 0, 1, 2, 3, 4], none⟩])
def j75_3 : SCode :=
  (.region false [⟨(some 68), (.ibin .i64 .add (.t 42) (.k (.one (.d (.int .i64 1))))), [], none⟩, ⟨(some 42), (.mov (.t 68)), [0], none⟩])
def j75_1 : SCode :=
  (.seq (some [2, 3, 4, 6, 41, 42]) (.block 2 (.seq none (.region false [⟨(some 44), (.mov (.t 42)), [], none⟩, ⟨(some 7), (.mov (.t 44)), [0, 0], none⟩]) (.seq none (.region true [⟨(some 46),
  (.faddr 1 (.t 2)), [], none⟩, ⟨(some 47), (.load false 1 (.t 46)), [0], none⟩, ⟨(some 48), (.mov (.t 7)), [], none⟩, ⟨(some 49), (.iaddr 2 (.t 47) (.t 48)), [1, 2], none⟩, ⟨(some 50),
  (.load true 2 (.t 49)), [3], none⟩, ⟨(some 51), (.faddr 1 (.t 3)), [], none⟩, ⟨(some 52), (.load false 1 (.t 51)), [5], none⟩, ⟨(some 53), (.mov (.t 7)), [], none⟩, ⟨(some 54),
  (.iaddr 2 (.t 52) (.t 53)), [6, 7], none⟩, ⟨(some 55), (.load true 2 (.t 54)), [8], none⟩, ⟨(some 56), (.call 75 [(.t 50), (.t 55)]), [4, 9], none⟩, ⟨(some 45), (.mov (.t 56)), [10], none⟩,
  ⟨(some 57), (.ext (.t 45) 0), [11], none⟩, ⟨(some 58), (.ext (.t 45) 1), [11], none⟩, ⟨(some 8), (.alloc [(.int .i64), (.lst 2)] [(.d (.int .i64 0)), (.nilL 2)]), [], none⟩, ⟨none,
  (.store 2 (.t 8) (.t 57)), [14, 12, 10, 0, 1, 2, 3, 4, 5, 6, 7, 8, 9, 10, 11, 12, 14], none⟩, ⟨(some 9), (.mov (.t 58)), [13, 15, 0, 1, 2, 3, 4, 5, 6, 7, 8, 9, 10, 11, 12, 13, 14, 15],
  none⟩]) (.seq (some [2, 3, 4, 6, 8, 41, 42]) (.seq none (.region false [⟨(some 59), (.mov (.t 9)), [], none⟩, ⟨(some 60), (.inot (.t 59)), [0],
  none⟩]) (.cond (.t 60) (.seq none (.region false [⟨(some 61), (.load true 2 (.t 2)), [], none⟩, ⟨none, (.store 2 (.t 4) (.t 61)), [0, 0], none⟩, ⟨(some 5), (.mov (.k (.one (.d (.bool false))))), [1,
  0, 1], none⟩]) .ret) .skip)) j75_2)))) j75_3)
def lb75_0 : SCode :=
  (.seq none (.region false [⟨(some 43), (.ibin .i64 .lss (.t 42) (.t 41)), [], none⟩]) (.seq (some [2, 3, 4, 6, 41, 42]) (.cond (.t 43) .skip (.exit 1)) j75_1))
def j75_4 : SCode :=
  (.seq none (.region false [⟨(some 69), (.load true 2 (.t 6)), [], none⟩, ⟨none, (.store 2 (.t 4) (.t 69)), [0, 0], none⟩, ⟨(some 5), (.mov (.k (.one (.d (.bool true))))), [1, 0, 1], none⟩]) .ret)
def j75_0 : SCode :=
  (.seq none (.region false [⟨(some 36), (.faddr 0 (.t 2)), [], none⟩, ⟨(some 37), (.load false 1 (.t 36)), [0], none⟩, ⟨(some 38), (.build [(.d (.int .i64 0)), (.nilL 2)] [(0, (1, (.t 37)))]), [1],
  none⟩, ⟨(some 6), (.alloc [(.int .i64), (.lst 2)] [(.d (.int .i64 0)), (.nilL 2)]), [], none⟩, ⟨none, (.store 2 (.t 6) (.t 38)), [3, 2, 0, 1, 2, 3], none⟩]) (.seq (some [4,
  6]) (.seq none (.region false [⟨(some 39), (.faddr 1 (.t 2)), [], none⟩, ⟨(some 40), (.load false 1 (.t 39)), [0], none⟩, ⟨(some 41), (.len false (.t 40)), [1], none⟩, ⟨(some 42),
  (.mov (.k (.one (.d (.int .i64 0))))), [], none⟩]) (.block 1 (.loop [2, 3, 4, 6, 41, 42] lb75_0))) j75_4))
def sf75 : SFunc :=
  ⟨2, [(.cell true 2 4), (.tmp 5)], (.seq none (.region false [⟨(some 2), (.box [(.int .i64), (.lst 2)] (.t 0)), [], none⟩, ⟨(some 3), (.box [(.int .i64), (.lst 2)] (.t 1)), [], none⟩, ⟨(some 4),
  (.alloc [(.int .i64), (.lst 2)] [(.d (.int .i64 0)), (.nilL 2)]), [], none⟩, ⟨(some 5), (.mov (.k (.one (.d (.bool false))))), [], none⟩]) (.seq (some [2, 3,
  4]) (.block 0 (.seq none (.region false [⟨(some 11), (.faddr 0 (.t 2)), [], none⟩, ⟨(some 12), (.load false 1 (.t 11)), [0], none⟩, ⟨(some 13),
  (.ibin .i64 .eql (.t 12) (.k (.one (.d (.int .i64 0))))), [1], none⟩, ⟨(some 10), (.mov (.t 13)), [2], none⟩]) (.cond (.t 10) (.seq none (.region false [⟨(some 14), (.load true 2 (.t 3)), [], none⟩,
  ⟨none, (.store 2 (.t 4) (.t 14)), [0, 0], none⟩, ⟨(some 5), (.mov (.k (.one (.d (.bool true))))), [1, 0, 1], none⟩]) .ret) (.seq none (.region false [⟨(some 16), (.faddr 0 (.t 3)), [], none⟩,
  ⟨(some 17), (.load false 1 (.t 16)), [0], none⟩, ⟨(some 18), (.ibin .i64 .eql (.t 17) (.k (.one (.d (.int .i64 0))))), [1], none⟩, ⟨(some 15), (.mov (.t 18)), [2],
  none⟩]) (.cond (.t 15) (.seq none (.region false [⟨(some 19), (.load true 2 (.t 2)), [], none⟩, ⟨none, (.store 2 (.t 4) (.t 19)), [0, 0], none⟩, ⟨(some 5), (.mov (.k (.one (.d (.bool true))))), [1,
  0, 1], none⟩]) .ret) (.seq none (.region false [⟨(some 21), (.faddr 0 (.t 2)), [], none⟩, ⟨(some 22), (.load false 1 (.t 21)), [0], none⟩, ⟨(some 23), (.faddr 0 (.t 3)), [], none⟩, ⟨(some 24),
  (.load false 1 (.t 23)), [2], none⟩, ⟨(some 25), (.ibin .i64 .neq (.t 22) (.t 24)), [1, 3], none⟩, ⟨(some 26), (.mov (.t 25)), [4], none⟩, ⟨(some 27), (.faddr 1 (.t 2)), [5], (some (5, (26,
  false)))⟩, ⟨(some 28), (.load false 1 (.t 27)), [6, 5], (some (5, (26, false)))⟩, ⟨(some 29), (.len false (.t 28)), [7, 5], (some (5, (26, false)))⟩, ⟨(some 30), (.faddr 1 (.t 3)), [5], (some (5,
  (26, false)))⟩, ⟨(some 31), (.load false 1 (.t 30)), [9, 5], (some (5, (26, false)))⟩, ⟨(some 32), (.len false (.t 31)), [10, 5], (some (5, (26, false)))⟩, ⟨(some 33),
  (.ibin .i64 .neq (.t 29) (.t 32)), [8, 11, 5], (some (5, (26, false)))⟩, ⟨(some 34), (.pick (.t 26) (.k (.one (.d (.bool true)))) (.t 33)), [5, 12], none⟩, ⟨(some 20), (.mov (.t 34)), [13, 5],
  none⟩]) (.cond (.t 20) (.seq none (.region false [⟨(some 35), (.load true 2 (.t 2)), [], none⟩, ⟨none, (.store 2 (.t 4) (.t 35)), [0, 0], none⟩, ⟨(some 5), (.mov (.k (.one (.d (.bool false))))), [1,
  0, 1], none⟩]) .ret) .skip))))))) j75_0))⟩
theorem c75 : compFunc Tryd.prog [none, some [2, 3, 4], none, none, none, none, none, none, none, some [4, 6], none, some [2, 3, 4, 6, 41, 42], none, some [2, 3, 4, 6, 41, 42], some [2, 3, 4, 6, 41, 42], none, none, some [2, 3, 4, 6, 8, 41, 42], none, none, none] Tryd.f75 = some sf75 := by kernel_rfl
/-! sortilege/sortilegeref03.meet -/
def j76_4 : SCode :=
  (.region false [⟨(some 60), (.faddr 1 (.t 6)), [], none⟩, ⟨(some 61), (.load false 1 (.t 60)), [0], none⟩, ⟨(some 62), (.load true 2 (.t 8)), [], none⟩, ⟨(some 63), (.lit 24 2 [(.t 62)]), [2], none⟩,
  ⟨(some 64), (.app 24 2 32 (.t 61) (.t 63)), [1, 3], none⟩, ⟨(some 65), (.faddr 1 (.t 6)), [0, 1, 2, 3, 4], none⟩, ⟨none, (.store 1 (.t 65) (.t 64)), [5, 4, 4, 0, 1, 2, 3, 4], none⟩])
def j76_5 : SCode :=
  (.region false [⟨(some 41), (.mov (.t 7)), [], none⟩, ⟨(some 42), (.ibin .i64 .add (.t 41) (.k (.one (.d (.int .i64 1))))), [0], none⟩, ⟨(some 7), (.mov (.t 42)), [1, 0, 1], none⟩])
def j76_3 : SCode :=
  (.seq (some [2, 3, 4, 6, 7]) (.block 1 (.seq none (.region true [⟨(some 44), (.faddr 1 (.t 2)), [], none⟩, ⟨(some 45), (.load false 1 (.t 44)), [0], none⟩, ⟨(some 46), (.mov (.t 7)), [], none⟩,
  ⟨(some 47), (.iaddr 2 (.t 45) (.t 46)), [1, 2], none⟩, ⟨(some 48), (.load true 2 (.t 47)), [3], none⟩, ⟨(some 49), (.faddr 1 (.t 3)), [], none⟩, ⟨(some 50), (.load false 1 (.t 49)), [5], none⟩,
  ⟨(some 51), (.mov (.t 7)), [], none⟩, ⟨(some 52), (.iaddr 2 (.t 50) (.t 51)), [6, 7], none⟩, ⟨(some 53), (.load true 2 (.t 52)), [8], none⟩, ⟨(some 54), (.call 76 [(.t 48), (.t 53)]), [4, 9], none⟩,
  ⟨(some 43), (.mov (.t 54)), [10], none⟩, ⟨(some 55), (.ext (.t 43) 0), [11], none⟩, ⟨(some 56), (.ext (.t 43) 1), [11], none⟩, ⟨(some 8), (.alloc [(.int .i64), (.lst 2)] [(.d (.int .i64 0)),
  (.nilL 2)]), [], none⟩, ⟨none, (.store 2 (.t 8) (.t 55)), [14, 12, 10, 0, 1, 2, 3, 4, 5, 6, 7, 8, 9, 10, 11, 12, 14], none⟩, ⟨(some 9), (.mov (.t 56)), [13, 15, 0, 1, 2, 3, 4, 5, 6, 7, 8, 9, 10, 11,
  12, 13, 14, 15], none⟩]) (.seq (some [2, 3, 4, 6, 7, 8]) (.seq none (.region false [⟨(some 57), (.mov (.t 9)), [], none⟩, ⟨(some 58), (.inot (.t 57)), [0],
  none⟩]) (.cond (.t 58) (.seq none (.region false [⟨(some 59), (.build [(.d (.int .i64 0)), (.nilL 2)] []), [], none⟩, ⟨none, (.store 2 (.t 4) (.t 59)), [0, 0], none⟩, ⟨(some 5),
  (.mov (.k (.one (.d (.bool false))))), [1, 0, 1], none⟩]) .ret) .skip)) j76_4))) j76_5)
def lb76_0 : SCode :=
  (.seq (some [2, 3, 4, 6, 7]) (.seq none (.region false [⟨(some 36), (.mov (.t 7)), [], none⟩, ⟨(some 37), (.faddr 1 (.t 2)), [], none⟩, ⟨(some 38), (.load false 1 (.t 37)), [1], none⟩, ⟨(some 39),
  (.len false (.t 38)), [2], none⟩, ⟨(some 40), (.ibin .i64 .lss (.t 36) (.t 39)), [0, 3], none⟩]) (.cond (.t 40) .skip (.exit 0))) j76_3)
def j76_6 : SCode :=
  (.seq none (.region false [⟨(some 66), (.load true 2 (.t 6)), [], none⟩, ⟨none, (.store 2 (.t 4) (.t 66)), [0, 0], none⟩, ⟨(some 5), (.mov (.k (.one (.d (.bool true))))), [1, 0, 1], none⟩]) .ret)
def j76_2 : SCode :=
  (.seq none (.region false [⟨(some 33), (.faddr 0 (.t 2)), [], none⟩, ⟨(some 34), (.load false 1 (.t 33)), [0], none⟩, ⟨(some 35), (.build [(.d (.int .i64 0)), (.nilL 2)] [(0, (1, (.t 34)))]), [1],
  none⟩, ⟨(some 6), (.alloc [(.int .i64), (.lst 2)] [(.d (.int .i64 0)), (.nilL 2)]), [], none⟩, ⟨none, (.store 2 (.t 6) (.t 35)), [3, 2, 0, 1, 2, 3], none⟩]) (.seq (some [4,
  6]) (.seq none (.region false [⟨(some 7), (.mov (.k (.one (.d (.int .i64 0))))), [], none⟩]) (.block 0 (.loop [2, 3, 4, 6, 7] lb76_0))) j76_6))
def j76_1 : SCode :=
  (.seq (some [2, 3, 4]) (.seq none (.region false [⟨(some 18), (.faddr 0 (.t 2)), [], none⟩, ⟨(some 19), (.load false 1 (.t 18)), [0], none⟩, ⟨(some 20), (.faddr 0 (.t 3)), [], none⟩, ⟨(some 21),
  (.load false 1 (.t 20)), [2], none⟩, ⟨(some 22), (.ibin .i64 .neq (.t 19) (.t 21)), [1, 3], none⟩, ⟨(some 23), (.mov (.t 22)), [4], none⟩, ⟨(some 24), (.faddr 1 (.t 2)), [5], (some (5, (23,
  false)))⟩, ⟨(some 25), (.load false 1 (.t 24)), [6, 5], (some (5, (23, false)))⟩, ⟨(some 26), (.len false (.t 25)), [7, 5], (some (5, (23, false)))⟩, ⟨(some 27), (.faddr 1 (.t 3)), [5], (some (5,
  (23, false)))⟩, ⟨(some 28), (.load false 1 (.t 27)), [9, 5], (some (5, (23, false)))⟩, ⟨(some 29), (.len false (.t 28)), [10, 5], (some (5, (23, false)))⟩, ⟨(some 30),
  (.ibin .i64 .neq (.t 26) (.t 29)), [8, 11, 5], (some (5, (23, false)))⟩, ⟨(some 31), (.pick (.t 23) (.k (.one (.d (.bool true)))) (.t 30)), [5, 12],
  none⟩]) (.cond (.t 31) (.seq none (.region false [⟨(some 32), (.build [(.d (.int .i64 0)), (.nilL 2)] []), [], none⟩, ⟨none, (.store 2 (.t 4) (.t 32)), [0, 0], none⟩, ⟨(some 5),
  (.mov (.k (.one (.d (.bool false))))), [1, 0, 1], none⟩]) .ret) .skip)) j76_2)
def j76_0 : SCode :=
  (.seq (some [2, 3, 4]) (.seq none (.region false [⟨(some 14), (.faddr 0 (.t 3)), [], none⟩, ⟨(some 15), (.load false 1 (.t 14)), [0], none⟩, ⟨(some 16),
  (.ibin .i64 .eql (.t 15) (.k (.one (.d (.int .i64 0))))), [1], none⟩]) (.cond (.t 16) (.seq none (.region false [⟨(some 17), (.load true 2 (.t 2)), [], none⟩, ⟨none, (.store 2 (.t 4) (.t 17)), [0,
  0], none⟩, ⟨(some 5), (.mov (.k (.one (.d (.bool true))))), [1, 0, 1], none⟩]) .ret) .skip)) j76_1)
def sf76 : SFunc :=
  ⟨2, [(.cell true 2 4), (.tmp 5)], (.seq none (.region false [⟨(some 2), (.box [(.int .i64), (.lst 2)] (.t 0)), [], none⟩, ⟨(some 3), (.box [(.int .i64), (.lst 2)] (.t 1)), [], none⟩, ⟨(some 4),
  (.alloc [(.int .i64), (.lst 2)] [(.d (.int .i64 0)), (.nilL 2)]), [], none⟩, ⟨(some 5), (.mov (.k (.one (.d (.bool false))))), [], none⟩]) (.seq (some [2, 3,
  4]) (.seq none (.region false [⟨(some 10), (.faddr 0 (.t 2)), [], none⟩, ⟨(some 11), (.load false 1 (.t 10)), [0], none⟩, ⟨(some 12), (.ibin .i64 .eql (.t 11) (.k (.one (.d (.int .i64 0))))), [1],
  none⟩]) (.cond (.t 12) (.seq none (.region false [⟨(some 13), (.load true 2 (.t 3)), [], none⟩, ⟨none, (.store 2 (.t 4) (.t 13)), [0, 0], none⟩, ⟨(some 5), (.mov (.k (.one (.d (.bool true))))), [1,
  0, 1], none⟩]) .ret) .skip)) j76_0))⟩
theorem c76 : compFunc Tryd.prog [none, some [2, 3, 4], none, none, some [2, 3, 4], none, none, some [2, 3, 4], none, none, none, some [4, 6], none, some [2, 3, 4, 6, 7], some [2, 3, 4, 6, 7], none, some [2, 3, 4, 6, 7], none, some [2, 3, 4, 6, 7, 8], none, none, none] Tryd.f76 = some sf76 := by kernel_rfl
/-! cmp.isNaN[int] -/
def sf77 : SFunc :=
  ⟨1, [(.tmp 2)], (.seq none (.region false [⟨(some 2), (.mov (.k (.one (.d (.bool false))))), [], none⟩]) (.seq none (.region false [⟨(some 3), (.mov (.t 0)), [], none⟩, ⟨(some 4), (.mov (.t 0)), [],
  none⟩, ⟨(some 5), (.ibin .i64 .neq (.t 3) (.t 4)), [0, 1], none⟩, ⟨(some 2), (.mov (.t 5)), [2, 0, 1, 2], none⟩]) .ret))⟩
theorem c77 : compFunc Tryd.prog [none, none] Tryd.f77 = some sf77 := by kernel_rfl
/-! strconv.Atoi -/
def j78_0 : SCode :=
  (.seq none (.region false [⟨(some 17), (.mov (.t 4)), [], none⟩, ⟨(some 2), (.mov (.t 17)), [0, 0], none⟩, ⟨(some 3), (.mov (.k (.one (.d .nilI)))), [1, 0, 1], none⟩]) .ret)
def sf78 : SFunc :=
  ⟨1, [(.tmp 2), (.tmp 3)], (.seq none (.region false [⟨(some 2), (.mov (.k (.one (.d (.int .i64 0))))), [], none⟩, ⟨(some 3), (.mov (.k (.one (.d .nilI)))), [0],
  none⟩]) (.seq none (.region false [⟨(some 7), (.mov (.t 0)), [], none⟩, ⟨(some 8), (.call 88 [(.t 7)]), [0], none⟩, ⟨(some 6), (.mov (.t 8)), [1], none⟩, ⟨(some 9), (.ext (.t 6) 0), [2], none⟩,
  ⟨(some 10), (.ext (.t 6) 1), [2], none⟩, ⟨(some 4), (.mov (.t 9)), [3, 1, 0, 1, 2, 3], none⟩, ⟨(some 5), (.mov (.t 10)), [4, 5, 0, 1, 2, 3, 4, 5],
  none⟩]) (.seq (some [4]) (.seq none (.region false [⟨(some 11), (.mov (.t 5)), [], none⟩, ⟨(some 12), (.inil true (.t 11)), [0], none⟩]) (.cond (.t 12) (.seq none (.region false [⟨(some 13),
  (.mov (.t 4)), [], none⟩, ⟨(some 14), (.mov (.t 0)), [], none⟩, ⟨(some 15), (.mov (.t 5)), [], none⟩, ⟨(some 16), (.call 89 [(.k (.one (.d (.str ⟨#[65, 116, 111, 105]⟩)))), (.t 14),
  (.k (.one (.d (.int .i64 0)))), (.k (.one (.d (.int .i64 0)))), (.t 15)]), [1, 2], none⟩, ⟨(some 2), (.mov (.t 13)), [0, 3, 0], none⟩, ⟨(some 3), (.mov (.t 16)), [3, 4, 0, 1, 2, 3, 4],
  none⟩]) .ret) .skip)) j78_0)))⟩
theorem c78 : compFunc Tryd.prog [none, none, some [4], none, none, none] Tryd.f78 = some sf78 := by kernel_rfl
/-! sortilege/sortilegeref03.readNumber -/
def j79_1 : SCode :=
  (.block 1 (.seq none (.region false [⟨(some 40), (.mov (.t 9)), [], none⟩, ⟨(some 41), (.ibin .i64 .mul (.k (.one (.d (.int .i64 10)))) (.t 40)), [0], none⟩, ⟨(some 42), (.mov (.t 0)), [], none⟩,
  ⟨(some 43), (.mov (.t 1)), [], none⟩, ⟨(some 44), (.chr (.t 42) (.t 43)), [2, 3], none⟩, ⟨(some 45), (.ibin .u8 .sub (.t 44) (.k (.one (.d (.int .u8 48))))), [4], none⟩, ⟨(some 46),
  (.conv .u8 .i64 (.t 45)), [5], none⟩, ⟨(some 47), (.ibin .i64 .add (.t 41) (.t 46)), [1, 6], none⟩, ⟨(some 9), (.mov (.t 47)), [7, 0, 1, 2, 3, 4, 5, 6, 7], none⟩]) (.region false [⟨(some 48),
  (.mov (.t 1)), [], none⟩, ⟨(some 49), (.ibin .i64 .add (.t 48) (.k (.one (.d (.int .i64 1))))), [0], none⟩, ⟨(some 1), (.mov (.t 49)), [1, 0, 1], none⟩])))
def lb79_0 : SCode :=
  (.seq (some [0, 1, 7, 8, 9]) (.seq none (.region false [⟨(some 18), (.mov (.t 1)), [], none⟩, ⟨(some 19), (.mov (.t 0)), [], none⟩, ⟨(some 20), (.len true (.t 19)), [1], none⟩, ⟨(some 21),
  (.ibin .i64 .lss (.t 18) (.t 20)), [0, 2], none⟩, ⟨(some 22), (.mov (.t 21)), [3], none⟩, ⟨(some 23), (.mov (.t 0)), [4], (some (4, (22, true)))⟩, ⟨(some 24), (.mov (.t 1)), [4], (some (4, (22,
  true)))⟩, ⟨(some 25), (.chr (.t 23) (.t 24)), [5, 6, 4], (some (4, (22, true)))⟩, ⟨(some 26), (.ibin .u8 .geq (.t 25) (.k (.one (.d (.int .u8 48))))), [7, 4], (some (4, (22, true)))⟩, ⟨(some 27),
  (.pick (.t 22) (.t 26) (.k (.one (.d (.bool false))))), [4, 8], none⟩, ⟨(some 28), (.mov (.t 27)), [9, 4], none⟩, ⟨(some 29), (.mov (.t 0)), [10], (some (10, (28, true)))⟩, ⟨(some 30),
  (.mov (.t 1)), [10], (some (10, (28, true)))⟩, ⟨(some 31), (.chr (.t 29) (.t 30)), [11, 12, 10], (some (10, (28, true)))⟩, ⟨(some 32), (.ibin .u8 .leq (.t 31) (.k (.one (.d (.int .u8 57))))), [13,
  10], (some (10, (28, true)))⟩, ⟨(some 33), (.pick (.t 28) (.t 32) (.k (.one (.d (.bool false))))), [10, 14], none⟩, ⟨(some 34), (.mov (.t 33)), [15, 10], none⟩, ⟨(some 35), (.mov (.t 1)), [16],
  (some (16, (34, true)))⟩, ⟨(some 36), (.mov (.t 8)), [16], (some (16, (34, true)))⟩, ⟨(some 37), (.ibin .i64 .add (.t 36) (.k (.one (.d (.int .i64 11))))), [18, 16], (some (16, (34, true)))⟩,
  ⟨(some 38), (.ibin .i64 .lss (.t 35) (.t 37)), [17, 19, 16], (some (16, (34, true)))⟩, ⟨(some 39), (.pick (.t 34) (.t 38) (.k (.one (.d (.bool false))))), [16, 20],
  none⟩]) (.cond (.t 39) .skip (.exit 0))) j79_1)
def j79_3 : SCode :=
  (.seq none (.region false [⟨(some 53), (.mov (.t 1)), [], none⟩, ⟨(some 54), (.mov (.t 8)), [], none⟩, ⟨(some 55), (.ibin .i64 .gtr (.t 53) (.t 54)), [0, 1], none⟩, ⟨(some 56), (.mov (.t 55)), [2],
  none⟩, ⟨(some 57), (.mov (.t 0)), [3], (some (3, (56, true)))⟩, ⟨(some 58), (.mov (.t 8)), [3], (some (3, (56, true)))⟩, ⟨(some 59), (.chr (.t 57) (.t 58)), [4, 5, 3], (some (3, (56, true)))⟩,
  ⟨(some 60), (.ibin .u8 .neq (.t 59) (.k (.one (.d (.int .u8 48))))), [6, 3], (some (3, (56, true)))⟩, ⟨(some 61), (.mov (.t 60)), [7, 3, 3], (some (3, (56, true)))⟩, ⟨(some 62), (.mov (.t 1)), [8],
  (some (8, (61, false)))⟩, ⟨(some 63), (.mov (.t 8)), [8], (some (8, (61, false)))⟩, ⟨(some 64), (.ibin .i64 .add (.t 63) (.k (.one (.d (.int .i64 1))))), [10, 8], (some (8, (61, false)))⟩,
  ⟨(some 65), (.ibin .i64 .eql (.t 62) (.t 64)), [9, 11, 8], (some (8, (61, false)))⟩, ⟨(some 66), (.mov (.t 65)), [12, 8, 8], (some (8, (61, false)))⟩, ⟨(some 67), (.mov (.t 7)), [13], (some (13,
  (66, true)))⟩, ⟨(some 68), (.inot (.t 67)), [14, 13], (some (13, (66, true)))⟩, ⟨(some 69), (.pick (.t 66) (.t 68) (.k (.one (.d (.bool false))))), [13, 15, 8], (some (8, (61, false)))⟩, ⟨(some 70),
  (.pick (.t 61) (.k (.one (.d (.bool true)))) (.t 69)), [8, 16, 3], (some (3, (56, true)))⟩, ⟨(some 71), (.pick (.t 56) (.t 70) (.k (.one (.d (.bool false))))), [3, 17], none⟩, ⟨(some 72),
  (.mov (.t 71)), [18, 13], none⟩, ⟨(some 73), (.mov (.t 9)), [19], (some (19, (72, true)))⟩, ⟨(some 74), (.ibin .i64 .geq (.t 73) (.k (.one (.d (.int .i64 (-2147483648)))))), [20, 19], (some (19,
  (72, true)))⟩, ⟨(some 75), (.pick (.t 72) (.t 74) (.k (.one (.d (.bool false))))), [19, 21], none⟩, ⟨(some 76), (.mov (.t 75)), [22, 19], none⟩, ⟨(some 77), (.mov (.t 9)), [23], (some (23, (76,
  true)))⟩, ⟨(some 78), (.ibin .i64 .leq (.t 77) (.k (.one (.d (.int .i64 2147483647))))), [24, 23], (some (23, (76, true)))⟩, ⟨(some 79), (.pick (.t 76) (.t 78) (.k (.one (.d (.bool false))))), [23,
  25], none⟩, ⟨(some 10), (.mov (.t 79)), [26, 23, 0, 1, 2, 3, 4, 5, 6, 7, 8, 9, 10, 11, 12, 13, 14, 15, 16, 17, 18, 19, 20, 21, 22, 23, 24, 25, 26], none⟩]) (.seq none (.region false [⟨(some 80),
  (.mov (.t 9)), [], none⟩, ⟨(some 81), (.mov (.t 1)), [], none⟩, ⟨(some 82), (.mov (.t 10)), [], none⟩, ⟨(some 4), (.mov (.t 80)), [0, 0], none⟩, ⟨(some 5), (.mov (.t 81)), [1, 3, 0, 1, 3], none⟩,
  ⟨(some 6), (.mov (.t 82)), [2, 4, 0, 1, 2, 3, 4], none⟩]) .ret))
def j79_2 : SCode :=
  (.seq (some [0, 1, 7, 8, 9]) (.seq none (.region false [⟨(some 50), (.mov (.t 7)), [], none⟩]) (.cond (.t 50) (.region false [⟨(some 51), (.mov (.t 9)), [], none⟩, ⟨(some 52), (.ineg .i64 (.t 51)),
  [0], none⟩, ⟨(some 9), (.mov (.t 52)), [1, 0, 1], none⟩]) .skip)) j79_3)
def j79_0 : SCode :=
  (.seq none (.region false [⟨(some 17), (.mov (.t 1)), [], none⟩, ⟨(some 8), (.mov (.t 17)), [0, 0], none⟩, ⟨(some 9), (.mov (.k (.one (.d (.int .i64 0))))), [1, 0, 1], none⟩]) (.seq (some [0, 1, 7, 8,
  9]) (.block 0 (.loop [0, 1, 7, 8, 9] lb79_0)) j79_2))
def sf79 : SFunc :=
  ⟨2, [(.tmp 4), (.tmp 5), (.tmp 6)], (.seq none (.region false [⟨(some 4), (.mov (.k (.one (.d (.int .i64 0))))), [], none⟩, ⟨(some 5), (.mov (.k (.one (.d (.int .i64 0))))), [0], none⟩, ⟨(some 6),
  (.mov (.k (.one (.d (.bool false))))), [1], none⟩]) (.seq none (.region false [⟨(some 11), (.mov (.t 0)), [], none⟩, ⟨(some 12), (.mov (.t 1)), [], none⟩, ⟨(some 13), (.call 66 [(.t 11), (.t 12),
  (.k (.one (.d (.str ⟨#[45]⟩))))]), [0, 1], none⟩, ⟨(some 7), (.mov (.t 13)), [2, 2, 0, 1, 2], none⟩]) (.seq (some [0, 1, 7]) (.seq none (.region false [⟨(some 14), (.mov (.t 7)), [],
  none⟩]) (.cond (.t 14) (.region false [⟨(some 15), (.mov (.t 1)), [], none⟩, ⟨(some 16), (.ibin .i64 .add (.t 15) (.k (.one (.d (.int .i64 1))))), [0], none⟩, ⟨(some 1), (.mov (.t 16)), [1, 0, 1],
  none⟩]) .skip)) j79_0)))⟩
theorem c79 : compFunc Tryd.prog [none, none, some [0, 1, 7], none, none, some [0, 1, 7, 8, 9], some [0, 1, 7, 8, 9], some [0, 1, 7, 8, 9], none, none, some [0, 1, 7, 8, 9], none, none, none] Tryd.f79 = some sf79 := by kernel_rfl
/-! internal/strconv.FormatBool -/
def j80_0 : SCode :=
  (.seq none (.region false [⟨(some 2), (.mov (.k (.one (.d (.str ⟨#[102, 97, 108, 115, 101]⟩))))), [], none⟩]) .ret)
def sf80 : SFunc :=
  ⟨1, [(.tmp 2)], (.seq none (.region false [⟨(some 2), (.mov (.k (.one (.d (.str ⟨#[]⟩))))), [], none⟩]) (.seq (some []) (.seq none (.region false [⟨(some 3), (.mov (.t 0)), [],
  none⟩]) (.cond (.t 3) (.seq none (.region false [⟨(some 2), (.mov (.k (.one (.d (.str ⟨#[116, 114, 117, 101]⟩))))), [], none⟩]) .ret) .skip)) j80_0))⟩
theorem c80 : compFunc Tryd.prog [none, some [], none, none, none] Tryd.f80 = some sf80 := by kernel_rfl
/-! internal/strconv.Itoa -/
def sf81 : SFunc :=
  ⟨1, [(.tmp 2)], (.seq none (.region false [⟨(some 2), (.mov (.k (.one (.d (.str ⟨#[]⟩))))), [], none⟩]) (.seq none (.region false [⟨(some 3), (.mov (.t 0)), [], none⟩, ⟨(some 4), (.call 90 [(.t 3),
  (.k (.one (.d (.int .i64 10))))]), [0], none⟩, ⟨(some 2), (.mov (.t 4)), [1, 1, 0, 1], none⟩]) .ret))⟩
theorem c81 : compFunc Tryd.prog [none, none] Tryd.f81 = some sf81 := by kernel_rfl
/-! sortilege/sortilegeref03.digits -/
def j82_0 : SCode :=
  (.seq none (.region false [⟨(some 9), (.mov (.t 3)), [], none⟩, ⟨(some 10), (.mov (.t 0)), [], none⟩, ⟨(some 11), (.ibin .u64 .rem (.t 10) (.k (.one (.d (.int .u64 10))))), [1], none⟩, ⟨(some 12),
  (.ibin .u64 .add (.k (.one (.d (.int .u64 48)))) (.t 11)), [2], none⟩, ⟨(some 13), (.conv .u64 .u8 (.t 12)), [3], none⟩, ⟨(some 14), (.lit 5 1 [(.t 13)]), [4], none⟩, ⟨(some 15), (.bstr (.t 14)),
  [5], none⟩, ⟨(some 16), (.sbin .add (.t 9) (.t 15)), [0, 6], none⟩, ⟨(some 2), (.mov (.t 16)), [7, 0, 1, 2, 3, 4, 5, 6, 7], none⟩]) .ret)
def sf82 : SFunc :=
  ⟨1, [(.tmp 2)], (.seq none (.region false [⟨(some 2), (.mov (.k (.one (.d (.str ⟨#[]⟩))))), [], none⟩]) (.seq none (.region false [⟨(some 3), (.mov (.k (.one (.d (.str ⟨#[]⟩))))), [],
  none⟩]) (.seq (some [0, 3]) (.seq none (.region false [⟨(some 4), (.mov (.t 0)), [], none⟩, ⟨(some 5), (.ibin .u64 .geq (.t 4) (.k (.one (.d (.int .u64 10))))), [0],
  none⟩]) (.cond (.t 5) (.region false [⟨(some 6), (.mov (.t 0)), [], none⟩, ⟨(some 7), (.ibin .u64 .quo (.t 6) (.k (.one (.d (.int .u64 10))))), [0], none⟩, ⟨(some 8), (.call 82 [(.t 7)]), [1],
  none⟩, ⟨(some 3), (.mov (.t 8)), [2, 2, 0, 1, 2], none⟩]) .skip)) j82_0)))⟩
theorem c82 : compFunc Tryd.prog [none, none, some [0, 3], none, none] Tryd.f82 = some sf82 := by kernel_rfl
/-! internal/stringslite.CutPrefix -/
def j83_0 : SCode :=
  (.seq none (.region false [⟨(some 11), (.mov (.t 0)), [], none⟩, ⟨(some 12), (.mov (.t 1)), [], none⟩, ⟨(some 13), (.len true (.t 12)), [1], none⟩, ⟨(some 14), (.sub (.t 11) (some (.t 13)) none), [0,
  2], none⟩, ⟨(some 4), (.mov (.t 14)), [3, 0, 1, 2, 3], none⟩, ⟨(some 5), (.mov (.k (.one (.d (.bool true))))), [4, 0, 1, 2, 3, 4], none⟩]) .ret)
def sf83 : SFunc :=
  ⟨2, [(.tmp 4), (.tmp 5)], (.seq none (.region false [⟨(some 4), (.mov (.k (.one (.d (.str ⟨#[]⟩))))), [], none⟩, ⟨(some 5), (.mov (.k (.one (.d (.bool false))))), [0], none⟩]) (.seq (some [0,
  1]) (.seq none (.region false [⟨(some 6), (.mov (.t 0)), [], none⟩, ⟨(some 7), (.mov (.t 1)), [], none⟩, ⟨(some 8), (.call 91 [(.t 6), (.t 7)]), [0, 1], none⟩, ⟨(some 9), (.inot (.t 8)), [2],
  none⟩]) (.cond (.t 9) (.seq none (.region false [⟨(some 10), (.mov (.t 0)), [], none⟩, ⟨(some 4), (.mov (.t 10)), [0, 0], none⟩, ⟨(some 5), (.mov (.k (.one (.d (.bool false))))), [1, 0, 1],
  none⟩]) .ret) .skip)) j83_0))⟩
theorem c83 : compFunc Tryd.prog [none, some [0, 1], none, none, none] Tryd.f83 = some sf83 := by kernel_rfl
/-! slices.IndexFunc[[]sortilege/api.Type,sortilege/api.Type] -/
def j84_1 : SCode :=
  (.region false [⟨(some 18), (.ibin .i64 .add (.t 8) (.k (.one (.d (.int .i64 1))))), [], none⟩, ⟨(some 8), (.mov (.t 18)), [0], none⟩])
def j84_0 : SCode :=
  (.seq (some [0, 1, 7, 8]) (.block 1 (.seq none (.region false [⟨(some 10), (.mov (.t 8)), [], none⟩, ⟨(some 5), (.mov (.t 10)), [0, 0], none⟩]) (.seq none (.region false [⟨(some 11), (.mov (.t 1)),
  [], none⟩, ⟨(some 12), (.mov (.t 0)), [], none⟩, ⟨(some 13), (.mov (.t 5)), [], none⟩, ⟨(some 14), (.iaddr 2 (.t 12) (.t 13)), [1, 2], none⟩, ⟨(some 15), (.load true 2 (.t 14)), [3], none⟩,
  ⟨(some 16), (.callv (.t 11) [(.t 15)]), [0, 4], none⟩]) (.cond (.t 16) (.seq none (.region false [⟨(some 17), (.mov (.t 5)), [], none⟩, ⟨(some 4), (.mov (.t 17)), [0, 0],
  none⟩]) .ret) .skip)))) j84_1)
def lb84_0 : SCode :=
  (.seq none (.region false [⟨(some 9), (.ibin .i64 .lss (.t 8) (.t 7)), [], none⟩]) (.seq (some [0, 1, 7, 8]) (.cond (.t 9) .skip (.exit 0)) j84_0))
def j84_2 : SCode :=
  (.seq none (.region false [⟨(some 4), (.mov (.k (.one (.d (.int .i64 (-1)))))), [], none⟩]) .ret)
def sf84 : SFunc :=
  ⟨2, [(.tmp 4)], (.seq none (.region false [⟨(some 4), (.mov (.k (.one (.d (.int .i64 0))))), [], none⟩]) (.seq (some []) (.seq none (.region false [⟨(some 6), (.mov (.t 0)), [], none⟩, ⟨(some 7),
  (.len false (.t 6)), [0], none⟩, ⟨(some 8), (.mov (.k (.one (.d (.int .i64 0))))), [], none⟩]) (.block 0 (.loop [0, 1, 7, 8] lb84_0))) j84_2))⟩
theorem c84 : compFunc Tryd.prog [none, some [], none, some [0, 1, 7, 8], none, some [0, 1, 7, 8], some [0, 1, 7, 8], none, none, none, none] Tryd.f84 = some sf84 := by kernel_rfl
/-! slices.IndexFunc[[]sortilege/api.Value,sortilege/api.Value] -/
def j87_1 : SCode :=
  (.region false [⟨(some 18), (.ibin .i64 .add (.t 8) (.k (.one (.d (.int .i64 1))))), [], none⟩, ⟨(some 8), (.mov (.t 18)), [0], none⟩])
def j87_0 : SCode :=
  (.seq (some [0, 1, 7, 8]) (.block 1 (.seq none (.region false [⟨(some 10), (.mov (.t 8)), [], none⟩, ⟨(some 5), (.mov (.t 10)), [0, 0], none⟩]) (.seq none (.region false [⟨(some 11), (.mov (.t 1)),
  [], none⟩, ⟨(some 12), (.mov (.t 0)), [], none⟩, ⟨(some 13), (.mov (.t 5)), [], none⟩, ⟨(some 14), (.iaddr 3 (.t 12) (.t 13)), [1, 2], none⟩, ⟨(some 15), (.load true 3 (.t 14)), [3], none⟩,
  ⟨(some 16), (.callv (.t 11) [(.t 15)]), [0, 4], none⟩]) (.cond (.t 16) (.seq none (.region false [⟨(some 17), (.mov (.t 5)), [], none⟩, ⟨(some 4), (.mov (.t 17)), [0, 0],
  none⟩]) .ret) .skip)))) j87_1)
def lb87_0 : SCode :=
  (.seq none (.region false [⟨(some 9), (.ibin .i64 .lss (.t 8) (.t 7)), [], none⟩]) (.seq (some [0, 1, 7, 8]) (.cond (.t 9) .skip (.exit 0)) j87_0))
def j87_2 : SCode :=
  (.seq none (.region false [⟨(some 4), (.mov (.k (.one (.d (.int .i64 (-1)))))), [], none⟩]) .ret)
def sf87 : SFunc :=
  ⟨2, [(.tmp 4)], (.seq none (.region false [⟨(some 4), (.mov (.k (.one (.d (.int .i64 0))))), [], none⟩]) (.seq (some []) (.seq none (.region false [⟨(some 6), (.mov (.t 0)), [], none⟩, ⟨(some 7),
  (.len false (.t 6)), [0], none⟩, ⟨(some 8), (.mov (.k (.one (.d (.int .i64 0))))), [], none⟩]) (.block 0 (.loop [0, 1, 7, 8] lb87_0))) j87_2))⟩
theorem c87 : compFunc Tryd.prog [none, some [], none, some [0, 1, 7, 8], none, some [0, 1, 7, 8], some [0, 1, 7, 8], none, none, none, none] Tryd.f87 = some sf87 := by kernel_rfl
/-! internal/stringslite.HasPrefix -/
def sf91 : SFunc :=
  ⟨2, [(.tmp 4)], (.seq none (.region false [⟨(some 4), (.mov (.k (.one (.d (.bool false))))), [], none⟩]) (.seq none (.region false [⟨(some 5), (.mov (.t 0)), [], none⟩, ⟨(some 6), (.len true (.t 5)),
  [0], none⟩, ⟨(some 7), (.mov (.t 1)), [], none⟩, ⟨(some 8), (.len true (.t 7)), [2], none⟩, ⟨(some 9), (.ibin .i64 .geq (.t 6) (.t 8)), [1, 3], none⟩, ⟨(some 10), (.mov (.t 9)), [4], none⟩,
  ⟨(some 11), (.mov (.t 0)), [5], (some (5, (10, true)))⟩, ⟨(some 12), (.mov (.t 1)), [5], (some (5, (10, true)))⟩, ⟨(some 13), (.len true (.t 12)), [7, 5], (some (5, (10, true)))⟩, ⟨(some 14),
  (.sub (.t 11) none (some (.t 13))), [6, 8, 5], (some (5, (10, true)))⟩, ⟨(some 15), (.mov (.t 1)), [5], (some (5, (10, true)))⟩, ⟨(some 16), (.sbin .eql (.t 14) (.t 15)), [9, 10, 5], (some (5, (10,
  true)))⟩, ⟨(some 17), (.pick (.t 10) (.t 16) (.k (.one (.d (.bool false))))), [5, 11], none⟩, ⟨(some 4), (.mov (.t 17)), [12, 5, 0, 1, 2, 3, 4, 5, 6, 7, 8, 9, 10, 11, 12], none⟩]) .ret))⟩
theorem c91 : compFunc Tryd.prog [none, none] Tryd.f91 = some sf91 := by kernel_rfl
/-! strconv.baseError -/
def sf97 : SFunc :=
  ⟨3, [(.tmp 6)], (.seq none (.region false [⟨(some 6), (.mov (.k (.one (.d .junk)))), [], none⟩]) (.seq none (.region false [⟨(some 7), (.mov (.t 0)), [], none⟩, ⟨(some 8), (.mov (.t 1)), [], none⟩,
  ⟨(some 9), (.call 104 [(.t 8)]), [1], none⟩, ⟨(some 10), (.mov (.t 2)), [], none⟩, ⟨(some 11), (.call 63 [(.t 10)]), [3, 2], none⟩, ⟨(some 12), (.sbin .add (.k (.one (.d (.str ⟨#[105, 110, 118, 97,
  108, 105, 100, 32, 98, 97, 115, 101, 32]⟩)))) (.t 11)), [4], none⟩, ⟨(some 13), (.call 105 [(.t 12)]), [5, 4], none⟩, ⟨(some 14), (.build [(.d (.str ⟨#[]⟩)), (.d (.str ⟨#[]⟩)), (.d .nilI)] [(0, (1,
  (.t 7))), (1, (1, (.t 9))), (2, (1, (.t 13)))]), [0, 2, 6], none⟩, ⟨(some 15), (.box [.str, .str, .any] (.t 14)), [7], none⟩, ⟨(some 6), (.mov (.t 15)), [8, 6, 0, 1, 2, 3, 4, 5, 6, 7, 8],
  none⟩]) .ret))⟩
theorem c97 : compFunc Tryd.prog [none, none] Tryd.f97 = some sf97 := by kernel_rfl
/-! strconv.bitSizeError -/
def sf98 : SFunc :=
  ⟨3, [(.tmp 6)], (.seq none (.region false [⟨(some 6), (.mov (.k (.one (.d .junk)))), [], none⟩]) (.seq none (.region false [⟨(some 7), (.mov (.t 0)), [], none⟩, ⟨(some 8), (.mov (.t 1)), [], none⟩,
  ⟨(some 9), (.call 104 [(.t 8)]), [1], none⟩, ⟨(some 10), (.mov (.t 2)), [], none⟩, ⟨(some 11), (.call 63 [(.t 10)]), [3, 2], none⟩, ⟨(some 12), (.sbin .add (.k (.one (.d (.str ⟨#[105, 110, 118, 97,
  108, 105, 100, 32, 98, 105, 116, 32, 115, 105, 122, 101, 32]⟩)))) (.t 11)), [4], none⟩, ⟨(some 13), (.call 105 [(.t 12)]), [5, 4], none⟩, ⟨(some 14), (.build [(.d (.str ⟨#[]⟩)), (.d (.str ⟨#[]⟩)),
  (.d .nilI)] [(0, (1, (.t 7))), (1, (1, (.t 9))), (2, (1, (.t 13)))]), [0, 2, 6], none⟩, ⟨(some 15), (.box [.str, .str, .any] (.t 14)), [7], none⟩, ⟨(some 6), (.mov (.t 15)), [8, 6, 0, 1, 2, 3, 4, 5,
  6, 7, 8], none⟩]) .ret))⟩
theorem c98 : compFunc Tryd.prog [none, none] Tryd.f98 = some sf98 := by kernel_rfl
/-! internal/strconv.small -/
def j99_0 : SCode :=
  (.seq none (.region false [⟨(some 9), (.mov (.t 0)), [], none⟩, ⟨(some 10), (.ibin .i64 .mul (.t 9) (.k (.one (.d (.int .i64 2))))), [0], none⟩, ⟨(some 11), (.mov (.t 0)), [], none⟩, ⟨(some 12),
  (.ibin .i64 .mul (.t 11) (.k (.one (.d (.int .i64 2))))), [2], none⟩, ⟨(some 13), (.ibin .i64 .add (.t 12) (.k (.one (.d (.int .i64 2))))), [3], none⟩, ⟨(some 14), (.sub (.k (.one (.d (.str ⟨#[48,
  48, 48, 49, 48, 50, 48, 51, 48, 52, 48, 53, 48, 54, 48, 55, 48, 56, 48, 57, 49, 48, 49, 49, 49, 50, 49, 51, 49, 52, 49, 53, 49, 54, 49, 55, 49, 56, 49, 57, 50, 48, 50, 49, 50, 50, 50, 51, 50, 52,
  50, 53, 50, 54, 50, 55, 50, 56, 50, 57, 51, 48, 51, 49, 51, 50, 51, 51, 51, 52, 51, 53, 51, 54, 51, 55, 51, 56, 51, 57, 52, 48, 52, 49, 52, 50, 52, 51, 52, 52, 52, 53, 52, 54, 52, 55, 52, 56, 52,
  57, 53, 48, 53, 49, 53, 50, 53, 51, 53, 52, 53, 53, 53, 54, 53, 55, 53, 56, 53, 57, 54, 48, 54, 49, 54, 50, 54, 51, 54, 52, 54, 53, 54, 54, 54, 55, 54, 56, 54, 57, 55, 48, 55, 49, 55, 50, 55, 51,
  55, 52, 55, 53, 55, 54, 55, 55, 55, 56, 55, 57, 56, 48, 56, 49, 56, 50, 56, 51, 56, 52, 56, 53, 56, 54, 56, 55, 56, 56, 56, 57, 57, 48, 57, 49, 57, 50, 57, 51, 57, 52, 57, 53, 57, 54, 57, 55, 57,
  56, 57, 57]⟩)))) (some (.t 10)) (some (.t 13))), [1, 4], none⟩, ⟨(some 2), (.mov (.t 14)), [5, 0, 1, 2, 3, 4, 5], none⟩]) .ret)
def sf99 : SFunc :=
  ⟨1, [(.tmp 2)], (.seq none (.region false [⟨(some 2), (.mov (.k (.one (.d (.str ⟨#[]⟩))))), [], none⟩]) (.seq (some [0]) (.seq none (.region false [⟨(some 3), (.mov (.t 0)), [], none⟩, ⟨(some 4),
  (.ibin .i64 .lss (.t 3) (.k (.one (.d (.int .i64 10))))), [0], none⟩]) (.cond (.t 4) (.seq none (.region false [⟨(some 5), (.mov (.t 0)), [], none⟩, ⟨(some 6), (.mov (.t 0)), [], none⟩, ⟨(some 7),
  (.ibin .i64 .add (.t 6) (.k (.one (.d (.int .i64 1))))), [1], none⟩, ⟨(some 8), (.sub (.k (.one (.d (.str ⟨#[48, 49, 50, 51, 52, 53, 54, 55, 56, 57, 97, 98, 99, 100, 101, 102, 103, 104, 105, 106,
  107, 108, 109, 110, 111, 112, 113, 114, 115, 116, 117, 118, 119, 120, 121, 122]⟩)))) (some (.t 5)) (some (.t 7))), [0, 2], none⟩, ⟨(some 2), (.mov (.t 8)), [3, 0, 1, 2, 3],
  none⟩]) .ret) .skip)) j99_0))⟩
theorem c99 : compFunc Tryd.prog [none, some [0], none, none, none] Tryd.f99 = some sf99 := by kernel_rfl
def progL : List (Nat × SFunc) := [(2, sf2), (3, sf3), (4, sf4), (5, sf5), (6, sf6), (7, sf7), (8, sf8), (9, sf9), (10, sf10), (11, sf11), (12, sf12), (13, sf13), (14, sf14), (15, sf15), (16, sf16), (17, sf17), (18, sf18), (19, sf19), (20, sf20), (21, sf21), (22, sf22), (23, sf23), (24, sf24), (25, sf25), (26, sf26), (27, sf27), (28, sf28), (29, sf29), (30, sf30), (31, sf31), (32, sf32), (33, sf33), (34, sf34), (35, sf35), (36, sf36), (37, sf37), (38, sf38), (39, sf39), (40, sf40), (41, sf41), (42, sf42), (43, sf43), (44, sf44), (45, sf45), (46, sf46), (47, sf47), (48, sf48), (49, sf49), (50, sf50), (51, sf51), (52, sf52), (53, sf53), (54, sf54), (55, sf55), (56, sf56), (57, sf57), (58, sf58), (59, sf59), (60, sf60), (61, sf61), (62, sf62), (63, sf63), (64, sf64), (65, sf65), (66, sf66), (67, sf67), (68, sf68), (72, sf72), (73, sf73), (74, sf74), (75, sf75), (76, sf76), (77, sf77), (78, sf78), (79, sf79), (80, sf80), (81, sf81), (82, sf82), (83, sf83), (84, sf84), (87, sf87), (91, sf91), (97, sf97), (98, sf98), (99, sf99)]
def shpL : List (Nat × Sh) := [(2, .none), (3, (.one .bool)), (4, (.one .bool)), (5, (.one .bool)), (6, (.one .bool)), (7, (.one .bool)), (8, (.one .bool)), (9, (.one .bool)), (10, (.one .bool)), (11, (.one .bool)), (12, (.one .bool)), (13, (.one .bool)), (14, (.tup [(.agg [(.int .i64), (.lst 2)]), (.one (.int .i64))])), (15, (.tup [(.agg [(.int .i64), (.lst 2)]), (.one (.int .i64))])), (16, (.one .bool)), (17, (.one .bool)), (18, (.one .bool)), (19, (.one .bool)), (20, (.one .str)), (21, (.one .str)), (22, (.one .bool)), (23, (.one .bool)), (24, (.one .bool)), (25, (.one .bool)), (26, (.one .bool)), (27, (.one .bool)), (28, (.one (.int .i64))), (29, (.one (.int .i64))), (30, (.one (.int .i64))), (31, (.one (.int .i64))), (32, (.one .bool)), (33, (.one .bool)), (34, (.tup [(.agg [(.int .i64), (.int .i64), (.lst 3)]), (.one (.int .i64))])), (35, (.tup [(.agg [(.int .i64), (.int .i64), (.lst 3)]), (.one (.int .i64))])), (36, (.one .str)), (37, (.one .str)), (38, (.one .bool)), (39, (.one .bool)), (40, (.agg [(.int .i64), (.int .i64), (.lst 3)])), (41, (.one (.int .i64))), (42, (.agg [(.int .i64), (.int .i64), (.lst 3)])), (43, (.tup [(.agg [(.int .i64), (.lst 2)]), (.one .str), (.one .bool)])), (44, (.tup [(.agg [(.int .i64), (.lst 2)]), (.one (.int .i64)), (.one .bool)])), (45, (.one .bool)), (46, (.one .bool)), (47, (.one .bool)), (48, (.one .str)), (49, (.one .str)), (50, (.one (.int .i64))), (51, (.one .bool)), (52, (.one .bool)), (53, (.tup [(.agg [(.int .i64), (.lst 2)]), (.one .bool)])), (54, (.agg [(.int .i64), (.lst 2)])), (55, (.tup [(.agg [(.int .i64), (.lst 2)]), (.one .bool)])), (56, (.one (.int .i64))), (57, (.one (.int .i64))), (58, (.one (.int .i64))), (59, (.one (.int .i64))), (60, (.tup [(.agg [(.int .i64), (.int .i64), (.lst 3)]), (.one .str), (.one .bool)])), (61, (.tup [(.agg [(.int .i64), (.int .i64), (.lst 3)]), (.one (.int .i64)), (.one .bool)])), (62, (.one .str)), (63, (.one .str)), (64, (.one .str)), (65, (.tup [(.one .str), (.one .bool)])), (66, (.one .bool)), (67, (.one .bool)), (68, (.one .bool)), (72, (.one .bool)), (73, (.one .bool)), (74, (.one .bool)), (75, (.tup [(.agg [(.int .i64), (.lst 2)]), (.one .bool)])), (76, (.tup [(.agg [(.int .i64), (.lst 2)]), (.one .bool)])), (77, (.one .bool)), (78, (.tup [(.one (.int .i64)), (.one .any)])), (79, (.tup [(.one (.int .i64)), (.one (.int .i64)), (.one .bool)])), (80, (.one .str)), (81, (.one .str)), (82, (.one .str)), (83, (.tup [(.one .str), (.one .bool)])), (84, (.one (.int .i64))), (87, (.one (.int .i64))), (91, (.one .bool)), (97, (.one .any)), (98, (.one .any)), (99, (.one .str))]
def findF {α : Type} (f : Nat) : List (Nat × α) → Option α
  | [] => none
  | (g, x) :: r => cond (Nat.beq g f) (some x) (findF f r)
def prog (f : FuncId) : Option SFunc := findF f progL
def shp (f : FuncId) : Sh := match findF f shpL with | some s => s | none => .none
theorem prog_ok : ∀ x, x ∈ progL → ∃ F lv, Tryd.prog.funcs[x.1]? = some F ∧ compFunc Tryd.prog lv F = some x.2 := by
  intro x hx
  simp only [progL, List.mem_cons, List.not_mem_nil, or_false] at hx
  rcases hx with rfl | rfl | rfl | rfl | rfl | rfl | rfl | rfl | rfl | rfl | rfl | rfl | rfl | rfl | rfl | rfl | rfl | rfl | rfl | rfl | rfl | rfl | rfl | rfl | rfl | rfl | rfl | rfl | rfl | rfl | rfl | rfl | rfl | rfl | rfl | rfl | rfl | rfl | rfl | rfl | rfl | rfl | rfl | rfl | rfl | rfl | rfl | rfl | rfl | rfl | rfl | rfl | rfl | rfl | rfl | rfl | rfl | rfl | rfl | rfl | rfl | rfl | rfl | rfl | rfl | rfl | rfl | rfl | rfl | rfl | rfl | rfl | rfl | rfl | rfl | rfl | rfl | rfl | rfl | rfl | rfl | rfl | rfl | rfl | rfl
  · exact ⟨_, _, Tryd.func2, c2⟩
  · exact ⟨_, _, Tryd.func3, c3⟩
  · exact ⟨_, _, Tryd.func4, c4⟩
  · exact ⟨_, _, Tryd.func5, c5⟩
  · exact ⟨_, _, Tryd.func6, c6⟩
  · exact ⟨_, _, Tryd.func7, c7⟩
  · exact ⟨_, _, Tryd.func8, c8⟩
  · exact ⟨_, _, Tryd.func9, c9⟩
  · exact ⟨_, _, Tryd.func10, c10⟩
  · exact ⟨_, _, Tryd.func11, c11⟩
  · exact ⟨_, _, Tryd.func12, c12⟩
  · exact ⟨_, _, Tryd.func13, c13⟩
  · exact ⟨_, _, Tryd.func14, c14⟩
  · exact ⟨_, _, Tryd.func15, c15⟩
  · exact ⟨_, _, Tryd.func16, c16⟩
  · exact ⟨_, _, Tryd.func17, c17⟩
  · exact ⟨_, _, Tryd.func18, c18⟩
  · exact ⟨_, _, Tryd.func19, c19⟩
  · exact ⟨_, _, Tryd.func20, c20⟩
  · exact ⟨_, _, Tryd.func21, c21⟩
  · exact ⟨_, _, Tryd.func22, c22⟩
  · exact ⟨_, _, Tryd.func23, c23⟩
  · exact ⟨_, _, Tryd.func24, c24⟩
  · exact ⟨_, _, Tryd.func25, c25⟩
  · exact ⟨_, _, Tryd.func26, c26⟩
  · exact ⟨_, _, Tryd.func27, c27⟩
  · exact ⟨_, _, Tryd.func28, c28⟩
  · exact ⟨_, _, Tryd.func29, c29⟩
  · exact ⟨_, _, Tryd.func30, c30⟩
  · exact ⟨_, _, Tryd.func31, c31⟩
  · exact ⟨_, _, Tryd.func32, c32⟩
  · exact ⟨_, _, Tryd.func33, c33⟩
  · exact ⟨_, _, Tryd.func34, c34⟩
  · exact ⟨_, _, Tryd.func35, c35⟩
  · exact ⟨_, _, Tryd.func36, c36⟩
  · exact ⟨_, _, Tryd.func37, c37⟩
  · exact ⟨_, _, Tryd.func38, c38⟩
  · exact ⟨_, _, Tryd.func39, c39⟩
  · exact ⟨_, _, Tryd.func40, c40⟩
  · exact ⟨_, _, Tryd.func41, c41⟩
  · exact ⟨_, _, Tryd.func42, c42⟩
  · exact ⟨_, _, Tryd.func43, c43⟩
  · exact ⟨_, _, Tryd.func44, c44⟩
  · exact ⟨_, _, Tryd.func45, c45⟩
  · exact ⟨_, _, Tryd.func46, c46⟩
  · exact ⟨_, _, Tryd.func47, c47⟩
  · exact ⟨_, _, Tryd.func48, c48⟩
  · exact ⟨_, _, Tryd.func49, c49⟩
  · exact ⟨_, _, Tryd.func50, c50⟩
  · exact ⟨_, _, Tryd.func51, c51⟩
  · exact ⟨_, _, Tryd.func52, c52⟩
  · exact ⟨_, _, Tryd.func53, c53⟩
  · exact ⟨_, _, Tryd.func54, c54⟩
  · exact ⟨_, _, Tryd.func55, c55⟩
  · exact ⟨_, _, Tryd.func56, c56⟩
  · exact ⟨_, _, Tryd.func57, c57⟩
  · exact ⟨_, _, Tryd.func58, c58⟩
  · exact ⟨_, _, Tryd.func59, c59⟩
  · exact ⟨_, _, Tryd.func60, c60⟩
  · exact ⟨_, _, Tryd.func61, c61⟩
  · exact ⟨_, _, Tryd.func62, c62⟩
  · exact ⟨_, _, Tryd.func63, c63⟩
  · exact ⟨_, _, Tryd.func64, c64⟩
  · exact ⟨_, _, Tryd.func65, c65⟩
  · exact ⟨_, _, Tryd.func66, c66⟩
  · exact ⟨_, _, Tryd.func67, c67⟩
  · exact ⟨_, _, Tryd.func68, c68⟩
  · exact ⟨_, _, Tryd.func72, c72⟩
  · exact ⟨_, _, Tryd.func73, c73⟩
  · exact ⟨_, _, Tryd.func74, c74⟩
  · exact ⟨_, _, Tryd.func75, c75⟩
  · exact ⟨_, _, Tryd.func76, c76⟩
  · exact ⟨_, _, Tryd.func77, c77⟩
  · exact ⟨_, _, Tryd.func78, c78⟩
  · exact ⟨_, _, Tryd.func79, c79⟩
  · exact ⟨_, _, Tryd.func80, c80⟩
  · exact ⟨_, _, Tryd.func81, c81⟩
  · exact ⟨_, _, Tryd.func82, c82⟩
  · exact ⟨_, _, Tryd.func83, c83⟩
  · exact ⟨_, _, Tryd.func84, c84⟩
  · exact ⟨_, _, Tryd.func87, c87⟩
  · exact ⟨_, _, Tryd.func91, c91⟩
  · exact ⟨_, _, Tryd.func97, c97⟩
  · exact ⟨_, _, Tryd.func98, c98⟩
  · exact ⟨_, _, Tryd.func99, c99⟩
end Go.Proofs.YtkpdofiflhjahaaDoor.Ps
