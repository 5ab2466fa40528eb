/- The functions of the program, in the small language. Printed by genp.py. -/
import Derived.Test.YtbmcafehpgimfaaPsT
import Derived.Test.YtbmcafehpgimfaaProg
namespace Go.Proofs.Ytbmcafehpgimfaa.Ps
set_option maxRecDepth 100000
open Go Go.RowKit
/-! sortilege/sortilegelaw06.ParserSames -/
def j4_0 : SCode :=
  (.seq none (.region true [⟨(some 14), (.faddr 2 (.t 2)), [], none⟩, ⟨(some 15), (.load true 8 (.t 14)), [0], none⟩, ⟨(some 16), (.faddr 2 (.t 3)), [], none⟩, ⟨(some 17), (.load true 8 (.t 16)), [2],
  none⟩, ⟨(some 18), (.call 15 [(.t 15), (.t 17)]), [1, 3], none⟩, ⟨(some 19), (.faddr 2 (.t 2)), [], none⟩, ⟨(some 20), (.load true 8 (.t 19)), [5], none⟩, ⟨(some 21), (.faddr 2 (.t 3)), [], none⟩,
  ⟨(some 22), (.load true 8 (.t 21)), [7], none⟩, ⟨(some 23), (.call 16 [(.t 20), (.t 22)]), [6, 8, 4], none⟩, ⟨(some 24), (.bbin .eql (.t 18) (.t 23)), [4, 9], none⟩, ⟨(some 25), (.mov (.t 24)), [10,
  9], none⟩, ⟨(some 26), (.load true 10 (.t 2)), [11], (some (11, (25, true)))⟩, ⟨(some 27), (.load true 10 (.t 3)), [11], (some (11, (25, true)))⟩, ⟨(some 28), (.call 17 [(.t 26), (.t 27)]), [12, 13,
  11, 11], (some (11, (25, true)))⟩, ⟨(some 29), (.load true 10 (.t 2)), [11], (some (11, (25, true)))⟩, ⟨(some 30), (.load true 10 (.t 3)), [11], (some (11, (25, true)))⟩, ⟨(some 31),
  (.call 18 [(.t 29), (.t 30)]), [15, 16, 14, 11], (some (11, (25, true)))⟩, ⟨(some 32), (.bbin .eql (.t 28) (.t 31)), [14, 17, 11], (some (11, (25, true)))⟩, ⟨(some 33),
  (.pick (.t 25) (.t 32) (.k (.one (.d (.bool false))))), [11, 18], none⟩, ⟨(some 34), (.mov (.t 33)), [19, 17], none⟩, ⟨(some 35), (.load true 10 (.t 2)), [20], (some (20, (34, true)))⟩, ⟨(some 36),
  (.load true 10 (.t 2)), [20], (some (20, (34, true)))⟩, ⟨(some 37), (.call 17 [(.t 35), (.t 36)]), [21, 22, 20, 20], (some (20, (34, true)))⟩, ⟨(some 38),
  (.pick (.t 34) (.t 37) (.k (.one (.d (.bool false))))), [20, 23], none⟩, ⟨(some 39), (.mov (.t 38)), [24, 23], none⟩, ⟨(some 40), (.call 10 []), [25, 25], (some (25, (39, true)))⟩, ⟨(some 41),
  (.pick (.t 39) (.t 40) (.k (.one (.d (.bool false))))), [25, 26], none⟩, ⟨(some 4), (.mov (.t 41)), [27, 26, 0, 1, 2, 3, 4, 5, 6, 7, 8, 9, 10, 11, 12, 13, 14, 15, 16, 17, 18, 19, 20, 21, 22, 23, 24,
  25, 26, 27], none⟩]) .ret)
def sf4 : SFunc :=
  ⟨2, [(.tmp 4)], (.seq none (.region false [⟨(some 2), (.box [(.lst 5), (.lst 14), (.int .i64), (.int .i64), .str, (.lst 1), (.lst 1), (.lst 8), (.int .i64), (.int .i64)] (.t 0)), [], none⟩, ⟨(some 3),
  (.box [(.lst 5), (.lst 14), (.int .i64), (.int .i64), .str, (.lst 1), (.lst 1), (.lst 8), (.int .i64), (.int .i64)] (.t 1)), [], none⟩, ⟨(some 4), (.mov (.k (.one (.d (.bool false))))), [],
  none⟩]) (.seq (some [2, 3]) (.seq none (.region false [⟨(some 5), (.load true 10 (.t 2)), [], none⟩, ⟨(some 6), (.call 14 [(.k (.one (.d (.int .i64 2000)))), (.t 5)]), [0], none⟩, ⟨(some 7),
  (.inot (.t 6)), [1], none⟩, ⟨(some 8), (.mov (.t 7)), [2, 1], none⟩, ⟨(some 9), (.load true 10 (.t 3)), [3], (some (3, (8, false)))⟩, ⟨(some 10), (.call 14 [(.k (.one (.d (.int .i64 2000)))),
  (.t 9)]), [4, 3, 3], (some (3, (8, false)))⟩, ⟨(some 11), (.inot (.t 10)), [5, 3], (some (3, (8, false)))⟩, ⟨(some 12), (.pick (.t 8) (.k (.one (.d (.bool true)))) (.t 11)), [3, 6],
  none⟩]) (.cond (.t 12) (.seq none (.region false [⟨(some 13), (.call 10 []), [], none⟩, ⟨(some 4), (.mov (.t 13)), [0, 0, 0], none⟩]) .ret) .skip)) j4_0))⟩
theorem c4 : compFunc Try.prog [none, some [2, 3], none, none, none] Try.f4 = some sf4 := by kernel_rfl
/-! sortilege/sortilegelaw06.awake -/
def j10_0 : SCode :=
  (.seq none (.region false [⟨(some 53), (.faddr 2 (.t 1)), [], none⟩, ⟨(some 54), (.load false 1 (.t 53)), [0], none⟩, ⟨(some 55), (.sbin .eql (.t 54) (.k (.one (.d (.str ⟨#[43]⟩))))), [1], none⟩,
  ⟨(some 56), (.mov (.t 55)), [2], none⟩, ⟨(some 57), (.faddr 7 (.t 1)), [3], (some (3, (56, true)))⟩, ⟨(some 58), (.load false 1 (.t 57)), [4, 3], (some (3, (56, true)))⟩, ⟨(some 59),
  (.ibin .i64 .eql (.t 58) (.k (.one (.d (.int .i64 3))))), [5, 3], (some (3, (56, true)))⟩, ⟨(some 60), (.pick (.t 56) (.t 59) (.k (.one (.d (.bool false))))), [3, 6], none⟩, ⟨(some 61),
  (.mov (.t 60)), [7, 3], none⟩, ⟨(some 62), (.faddr 5 (.t 1)), [8], (some (8, (61, true)))⟩, ⟨(some 63), (.load false 1 (.t 62)), [9, 8], (some (8, (61, true)))⟩, ⟨(some 64),
  (.iaddr 8 (.t 63) (.k (.one (.d (.int .i64 1))))), [10, 8], (some (8, (61, true)))⟩, ⟨(some 65), (.faddr 2 (.t 64)), [11, 8], (some (8, (61, true)))⟩, ⟨(some 66), (.load false 1 (.t 65)), [12, 8],
  (some (8, (61, true)))⟩, ⟨(some 67), (.sbin .eql (.t 66) (.k (.one (.d (.str ⟨#[42]⟩))))), [13, 8], (some (8, (61, true)))⟩, ⟨(some 68), (.pick (.t 61) (.t 67) (.k (.one (.d (.bool false))))), [8,
  14], none⟩, ⟨(some 69), (.mov (.t 68)), [15, 8], none⟩, ⟨(some 70), (.load true 4 (.t 2)), [16], (some (16, (69, true)))⟩, ⟨(some 71), (.build [(.d (.int .i64 0)), (.d (.str ⟨#[]⟩)),
  (.d (.int .i64 0)), (.d (.int .i64 0))] []), [16], (some (16, (69, true)))⟩, ⟨(some 72), (.aeq false [(.int .i64), .str, (.int .i64), (.int .i64)] (.t 70) (.t 71)), [17, 18, 16], (some (16, (69,
  true)))⟩, ⟨(some 73), (.pick (.t 69) (.t 72) (.k (.one (.d (.bool false))))), [16, 19], none⟩, ⟨(some 74), (.mov (.t 73)), [20, 16], none⟩, ⟨(some 75), (.faddr 5 (.t 3)), [21], (some (21, (74,
  true)))⟩, ⟨(some 76), (.load false 1 (.t 75)), [22, 21], (some (21, (74, true)))⟩, ⟨(some 77), (.iaddr 8 (.t 76) (.k (.one (.d (.int .i64 1))))), [23, 21], (some (21, (74, true)))⟩, ⟨(some 78),
  (.faddr 2 (.t 77)), [24, 21], (some (21, (74, true)))⟩, ⟨(some 79), (.load false 1 (.t 78)), [25, 21], (some (21, (74, true)))⟩, ⟨(some 80), (.sbin .eql (.t 79) (.k (.one (.d (.str ⟨#[58, 58]⟩))))),
  [26, 21], (some (21, (74, true)))⟩, ⟨(some 81), (.pick (.t 74) (.t 80) (.k (.one (.d (.bool false))))), [21, 27], none⟩, ⟨(some 82), (.mov (.t 81)), [28, 21], none⟩, ⟨(some 83),
  (.load true 4 (.t 4)), [29], (some (29, (82, true)))⟩, ⟨(some 84), (.build [(.d (.int .i64 0)), (.d (.str ⟨#[]⟩)), (.d (.int .i64 0)), (.d (.int .i64 0))] []), [29], (some (29, (82, true)))⟩,
  ⟨(some 85), (.aeq false [(.int .i64), .str, (.int .i64), (.int .i64)] (.t 83) (.t 84)), [30, 31, 29], (some (29, (82, true)))⟩, ⟨(some 86), (.pick (.t 82) (.t 85) (.k (.one (.d (.bool false))))),
  [29, 32], none⟩, ⟨(some 87), (.mov (.t 86)), [33, 29], none⟩, ⟨(some 88), (.load true 4 (.t 6)), [34], (some (34, (87, true)))⟩, ⟨(some 89), (.build [(.d (.int .i64 0)), (.d (.str ⟨#[]⟩)),
  (.d (.int .i64 0)), (.d (.int .i64 0))] [(0, (1, (.k (.one (.d (.int .i64 11)))))), (1, (1, (.k (.one (.d (.str ⟨#[61, 61]⟩)))))), (2, (1, (.k (.one (.d (.int .i64 1)))))), (3, (1,
  (.k (.one (.d (.int .i64 8))))))]), [34], (some (34, (87, true)))⟩, ⟨(some 90), (.aeq false [(.int .i64), .str, (.int .i64), (.int .i64)] (.t 88) (.t 89)), [35, 36, 34], (some (34, (87, true)))⟩,
  ⟨(some 91), (.pick (.t 87) (.t 90) (.k (.one (.d (.bool false))))), [34, 37], none⟩, ⟨(some 92), (.mov (.t 91)), [38, 34], none⟩, ⟨(some 93), (.load true 4 (.t 8)), [39], (some (39, (92, true)))⟩,
  ⟨(some 94), (.build [(.d (.int .i64 0)), (.d (.str ⟨#[]⟩)), (.d (.int .i64 0)), (.d (.int .i64 0))] [(0, (1, (.k (.one (.d (.int .i64 11)))))), (1, (1, (.k (.one (.d (.str ⟨#[105, 110]⟩)))))), (2,
  (1, (.k (.one (.d (.int .i64 1)))))), (3, (1, (.k (.one (.d (.int .i64 5))))))]), [39], (some (39, (92, true)))⟩, ⟨(some 95), (.aeq false [(.int .i64), .str, (.int .i64),
  (.int .i64)] (.t 93) (.t 94)), [40, 41, 39], (some (39, (92, true)))⟩, ⟨(some 96), (.pick (.t 92) (.t 95) (.k (.one (.d (.bool false))))), [39, 42], none⟩, ⟨(some 97), (.mov (.t 96)), [43, 39],
  none⟩, ⟨(some 98), (.load true 4 (.t 10)), [44], (some (44, (97, true)))⟩, ⟨(some 99), (.build [(.d (.int .i64 0)), (.d (.str ⟨#[]⟩)), (.d (.int .i64 0)), (.d (.int .i64 0))] []), [44], (some (44,
  (97, true)))⟩, ⟨(some 100), (.aeq false [(.int .i64), .str, (.int .i64), (.int .i64)] (.t 98) (.t 99)), [45, 46, 44], (some (44, (97, true)))⟩, ⟨(some 101),
  (.pick (.t 97) (.t 100) (.k (.one (.d (.bool false))))), [44, 47], none⟩, ⟨(some 102), (.mov (.t 101)), [48, 44], none⟩, ⟨(some 103), (.faddr 1 (.t 9)), [49], (some (49, (102, true)))⟩, ⟨(some 104),
  (.load false 1 (.t 103)), [50, 49], (some (49, (102, true)))⟩, ⟨(some 105), (.iaddr 14 (.t 104) (.k (.one (.d (.int .i64 0))))), [51, 49], (some (49, (102, true)))⟩, ⟨(some 106),
  (.faddr 12 (.t 105)), [52, 49], (some (49, (102, true)))⟩, ⟨(some 107), (.load false 1 (.t 106)), [53, 49], (some (49, (102, true)))⟩, ⟨(some 108),
  (.ibin .i64 .eql (.t 107) (.k (.one (.d (.int .i64 2))))), [54, 49], (some (49, (102, true)))⟩, ⟨(some 109), (.pick (.t 102) (.t 108) (.k (.one (.d (.bool false))))), [49, 55], none⟩, ⟨(some 110),
  (.mov (.t 109)), [56, 49], none⟩, ⟨(some 111), (.faddr 2 (.t 9)), [57], (some (57, (110, true)))⟩, ⟨(some 112), (.faddr 0 (.t 111)), [58, 57], (some (57, (110, true)))⟩, ⟨(some 113),
  (.load false 1 (.t 112)), [59, 57], (some (57, (110, true)))⟩, ⟨(some 114), (.ibin .i64 .eql (.t 113) (.k (.one (.d (.int .i64 3))))), [60, 57], (some (57, (110, true)))⟩, ⟨(some 115),
  (.pick (.t 110) (.t 114) (.k (.one (.d (.bool false))))), [57, 61], none⟩, ⟨(some 116), (.mov (.t 115)), [62, 57], none⟩, ⟨(some 117), (.load true 8 (.t 1)), [63], (some (63, (116, true)))⟩,
  ⟨(some 118), (.load true 8 (.t 1)), [63], (some (63, (116, true)))⟩, ⟨(some 119), (.call 15 [(.t 117), (.t 118)]), [64, 65, 63, 63], (some (63, (116, true)))⟩, ⟨(some 120),
  (.pick (.t 116) (.t 119) (.k (.one (.d (.bool false))))), [63, 66], none⟩, ⟨(some 121), (.mov (.t 120)), [67, 66], none⟩, ⟨(some 122), (.load true 8 (.t 1)), [68], (some (68, (121, true)))⟩,
  ⟨(some 123), (.load true 8 (.t 3)), [68], (some (68, (121, true)))⟩, ⟨(some 124), (.call 15 [(.t 122), (.t 123)]), [69, 70, 68, 68], (some (68, (121, true)))⟩, ⟨(some 125), (.inot (.t 124)), [71,
  68], (some (68, (121, true)))⟩, ⟨(some 126), (.pick (.t 121) (.t 125) (.k (.one (.d (.bool false))))), [68, 72], none⟩, ⟨(some 127), (.mov (.t 126)), [73, 71], none⟩, ⟨(some 128),
  (.load true 10 (.t 9)), [74], (some (74, (127, true)))⟩, ⟨(some 129), (.load true 10 (.t 9)), [74], (some (74, (127, true)))⟩, ⟨(some 130), (.call 17 [(.t 128), (.t 129)]), [75, 76, 74, 74],
  (some (74, (127, true)))⟩, ⟨(some 131), (.pick (.t 127) (.t 130) (.k (.one (.d (.bool false))))), [74, 77], none⟩, ⟨(some 0), (.mov (.t 131)), [78, 77, 0, 1, 2, 3, 4, 5, 6, 7, 8, 9, 10, 11, 12, 13,
  14, 15, 16, 17, 18, 19, 20, 21, 22, 23, 24, 25, 26, 27, 28, 29, 30, 31, 32, 33, 34, 35, 36, 37, 38, 39, 40, 41, 42, 43, 44, 45, 46, 47, 48, 49, 50, 51, 52, 53, 54, 55, 56, 57, 58, 59, 60, 61, 62,
  63, 64, 65, 66, 67, 68, 69, 70, 71, 72, 73, 74, 75, 76, 77, 78], none⟩]) .ret)
def sf10 : SFunc :=
  ⟨0, [(.tmp 0)], (.seq none (.region false [⟨(some 0), (.mov (.k (.one (.d (.bool false))))), [], none⟩]) (.seq none (.region false [⟨(some 12), (.call 11 [(.k (.one (.d (.str ⟨#[49, 32, 43, 32, 50,
  32, 42, 32, 51]⟩))))]), [], none⟩, ⟨(some 11), (.mov (.t 12)), [0], none⟩, ⟨(some 13), (.ext (.t 11) 0), [1], none⟩, ⟨(some 14), (.ext (.t 11) 1), [1], none⟩, ⟨(some 1), (.alloc [(.int .i64),
  (.int .i64), .str, (.lst 1), (.lst 1), (.lst 8), (.int .i64), (.int .i64)] [(.d (.int .i64 0)), (.d (.int .i64 0)), (.d (.str ⟨#[]⟩)), (.nilL 1), (.nilL 1), (.nilL 8), (.d (.int .i64 0)),
  (.d (.int .i64 0))]), [], none⟩, ⟨(some 2), (.alloc [(.int .i64), .str, (.int .i64), (.int .i64)] [(.d (.int .i64 0)), (.d (.str ⟨#[]⟩)), (.d (.int .i64 0)), (.d (.int .i64 0))]), [], none⟩, ⟨none,
  (.store 8 (.t 1) (.t 13)), [4, 2, 0, 0, 1, 2, 4, 5], none⟩, ⟨none, (.store 4 (.t 2) (.t 14)), [5, 3, 6, 0, 1, 2, 3, 4, 5, 6], none⟩]) (.seq none (.region false [⟨(some 16),
  (.call 11 [(.k (.one (.d (.str ⟨#[49, 32, 58, 58, 32, 50, 32, 58, 58, 32, 91, 93]⟩))))]), [], none⟩, ⟨(some 15), (.mov (.t 16)), [0], none⟩, ⟨(some 17), (.ext (.t 15) 0), [1], none⟩, ⟨(some 18),
  (.ext (.t 15) 1), [1], none⟩, ⟨(some 3), (.alloc [(.int .i64), (.int .i64), .str, (.lst 1), (.lst 1), (.lst 8), (.int .i64), (.int .i64)] [(.d (.int .i64 0)), (.d (.int .i64 0)), (.d (.str ⟨#[]⟩)),
  (.nilL 1), (.nilL 1), (.nilL 8), (.d (.int .i64 0)), (.d (.int .i64 0))]), [], none⟩, ⟨(some 4), (.alloc [(.int .i64), .str, (.int .i64), (.int .i64)] [(.d (.int .i64 0)), (.d (.str ⟨#[]⟩)),
  (.d (.int .i64 0)), (.d (.int .i64 0))]), [], none⟩, ⟨none, (.store 8 (.t 3) (.t 17)), [4, 2, 0, 0, 1, 2, 4, 5], none⟩, ⟨none, (.store 4 (.t 4) (.t 18)), [5, 3, 6, 0, 1, 2, 3, 4, 5, 6],
  none⟩]) (.seq none (.region false [⟨(some 20), (.call 11 [(.k (.one (.d (.str ⟨#[97, 32, 61, 61, 32, 98, 32, 61, 61, 32, 99]⟩))))]), [], none⟩, ⟨(some 19), (.mov (.t 20)), [0], none⟩, ⟨(some 21),
  (.ext (.t 19) 0), [1], none⟩, ⟨(some 22), (.ext (.t 19) 1), [1], none⟩, ⟨(some 5), (.alloc [(.int .i64), (.int .i64), .str, (.lst 1), (.lst 1), (.lst 8), (.int .i64),
  (.int .i64)] [(.d (.int .i64 0)), (.d (.int .i64 0)), (.d (.str ⟨#[]⟩)), (.nilL 1), (.nilL 1), (.nilL 8), (.d (.int .i64 0)), (.d (.int .i64 0))]), [], none⟩, ⟨(some 6), (.alloc [(.int .i64), .str,
  (.int .i64), (.int .i64)] [(.d (.int .i64 0)), (.d (.str ⟨#[]⟩)), (.d (.int .i64 0)), (.d (.int .i64 0))]), [], none⟩, ⟨none, (.store 8 (.t 5) (.t 21)), [4, 2, 0, 0, 1, 2, 4, 5], none⟩, ⟨none,
  (.store 4 (.t 6) (.t 22)), [5, 3, 6, 0, 1, 2, 3, 4, 5, 6], none⟩]) (.seq none (.region false [⟨(some 24), (.call 19 [(.k (.one (.d (.str ⟨#[108, 101, 116, 32, 105, 110]⟩))))]), [], none⟩,
  ⟨(some 23), (.mov (.t 24)), [0], none⟩, ⟨(some 25), (.ext (.t 23) 0), [1], none⟩, ⟨(some 26), (.ext (.t 23) 1), [1], none⟩, ⟨(some 7), (.alloc [(.lst 5), (.lst 14), (.int .i64), (.int .i64), .str,
  (.lst 1), (.lst 1), (.lst 8), (.int .i64), (.int .i64)] [(.nilL 5), (.nilL 14), (.d (.int .i64 0)), (.d (.int .i64 0)), (.d (.str ⟨#[]⟩)), (.nilL 1), (.nilL 1), (.nilL 8), (.d (.int .i64 0)),
  (.d (.int .i64 0))]), [], none⟩, ⟨(some 8), (.alloc [(.int .i64), .str, (.int .i64), (.int .i64)] [(.d (.int .i64 0)), (.d (.str ⟨#[]⟩)), (.d (.int .i64 0)), (.d (.int .i64 0))]), [], none⟩, ⟨none,
  (.store 10 (.t 7) (.t 25)), [4, 2, 0, 0, 1, 2, 4, 5], none⟩, ⟨none, (.store 4 (.t 8) (.t 26)), [5, 3, 6, 0, 1, 2, 3, 4, 5, 6], none⟩]) (.seq none (.region false [⟨(some 28),
  (.call 19 [(.k (.one (.d (.str ⟨#[105, 110, 112, 117, 116, 32, 110, 58, 32, 105, 110, 116, 59, 10, 102, 117, 110, 32, 102, 40, 97, 58, 32, 98, 111, 111, 108, 41, 58, 32, 91, 105, 110, 116, 93, 32,
  61, 32, 91, 93, 59, 10, 110]⟩))))]), [], none⟩, ⟨(some 27), (.mov (.t 28)), [0], none⟩, ⟨(some 29), (.ext (.t 27) 0), [1], none⟩, ⟨(some 30), (.ext (.t 27) 1), [1], none⟩, ⟨(some 9),
  (.alloc [(.lst 5), (.lst 14), (.int .i64), (.int .i64), .str, (.lst 1), (.lst 1), (.lst 8), (.int .i64), (.int .i64)] [(.nilL 5), (.nilL 14), (.d (.int .i64 0)), (.d (.int .i64 0)),
  (.d (.str ⟨#[]⟩)), (.nilL 1), (.nilL 1), (.nilL 8), (.d (.int .i64 0)), (.d (.int .i64 0))]), [], none⟩, ⟨(some 10), (.alloc [(.int .i64), .str, (.int .i64), (.int .i64)] [(.d (.int .i64 0)),
  (.d (.str ⟨#[]⟩)), (.d (.int .i64 0)), (.d (.int .i64 0))]), [], none⟩, ⟨none, (.store 10 (.t 9) (.t 29)), [4, 2, 0, 0, 1, 2, 4, 5], none⟩, ⟨none, (.store 4 (.t 10) (.t 30)), [5, 3, 6, 0, 1, 2, 3,
  4, 5, 6], none⟩]) (.seq (some [1, 2, 3, 4, 6, 8, 9, 10]) (.seq none (.region false [⟨(some 31), (.faddr 5 (.t 1)), [], none⟩, ⟨(some 32), (.load false 1 (.t 31)), [0], none⟩, ⟨(some 33),
  (.len false (.t 32)), [1], none⟩, ⟨(some 34), (.ibin .i64 .neq (.t 33) (.k (.one (.d (.int .i64 2))))), [2], none⟩, ⟨(some 35), (.mov (.t 34)), [3], none⟩, ⟨(some 36), (.faddr 5 (.t 3)), [4],
  (some (4, (35, false)))⟩, ⟨(some 37), (.load false 1 (.t 36)), [5, 4], (some (4, (35, false)))⟩, ⟨(some 38), (.len false (.t 37)), [6, 4], (some (4, (35, false)))⟩, ⟨(some 39),
  (.ibin .i64 .neq (.t 38) (.k (.one (.d (.int .i64 2))))), [7, 4], (some (4, (35, false)))⟩, ⟨(some 40), (.pick (.t 35) (.k (.one (.d (.bool true)))) (.t 39)), [4, 8], none⟩, ⟨(some 41),
  (.mov (.t 40)), [9, 4], none⟩, ⟨(some 42), (.faddr 0 (.t 9)), [10], (some (10, (41, false)))⟩, ⟨(some 43), (.load false 1 (.t 42)), [11, 10], (some (10, (41, false)))⟩, ⟨(some 44),
  (.len false (.t 43)), [12, 10], (some (10, (41, false)))⟩, ⟨(some 45), (.ibin .i64 .neq (.t 44) (.k (.one (.d (.int .i64 1))))), [13, 10], (some (10, (41, false)))⟩, ⟨(some 46),
  (.pick (.t 41) (.k (.one (.d (.bool true)))) (.t 45)), [10, 14], none⟩, ⟨(some 47), (.mov (.t 46)), [15, 10], none⟩, ⟨(some 48), (.faddr 1 (.t 9)), [16], (some (16, (47, false)))⟩, ⟨(some 49),
  (.load false 1 (.t 48)), [17, 16], (some (16, (47, false)))⟩, ⟨(some 50), (.len false (.t 49)), [18, 16], (some (16, (47, false)))⟩, ⟨(some 51),
  (.ibin .i64 .neq (.t 50) (.k (.one (.d (.int .i64 1))))), [19, 16], (some (16, (47, false)))⟩, ⟨(some 52), (.pick (.t 47) (.k (.one (.d (.bool true)))) (.t 51)), [16, 20],
  none⟩]) (.cond (.t 52) (.seq none (.region false [⟨(some 0), (.mov (.k (.one (.d (.bool false))))), [], none⟩]) .ret) .skip)) j10_0)))))))⟩
theorem c10 : compFunc Try.prog [none, none, none, none, none, none, some [1, 2, 3, 4, 6, 8, 9, 10], none, none, none] Try.f10 = some sf10 := by kernel_rfl
/-! sortilege/parser.Expr -/
def j11_1 : SCode :=
  (.seq none (.region true [⟨(some 19), (.load true 8 (.t 4)), [], none⟩, ⟨(some 20), (.load true 4 (.t 5)), [], none⟩, ⟨none, (.store 8 (.t 2) (.t 19)), [0, 0], none⟩, ⟨none, (.store 4 (.t 3) (.t 20)),
  [1, 2, 0, 1, 2], none⟩]) .ret)
def j11_0 : SCode :=
  (.seq (some [2, 3, 4, 5]) (.seq none (.region false [⟨(some 14), (.faddr 0 (.t 5)), [], none⟩, ⟨(some 15), (.load false 1 (.t 14)), [0], none⟩, ⟨(some 16),
  (.ibin .i64 .neq (.t 15) (.k (.one (.d (.int .i64 0))))), [1], none⟩]) (.cond (.t 16) (.seq none (.region true [⟨(some 17), (.build [(.d (.int .i64 0)), (.d (.int .i64 0)), (.d (.str ⟨#[]⟩)),
  (.nilL 1), (.nilL 1), (.nilL 8), (.d (.int .i64 0)), (.d (.int .i64 0))] []), [], none⟩, ⟨(some 18), (.load true 4 (.t 5)), [], none⟩, ⟨none, (.store 8 (.t 2) (.t 17)), [0, 0], none⟩, ⟨none,
  (.store 4 (.t 3) (.t 18)), [1, 2, 0, 1, 2], none⟩]) .ret) .skip)) j11_1)
def sf11 : SFunc :=
  ⟨1, [(.cell true 8 2), (.cell true 4 3)], (.seq none (.region false [⟨(some 2), (.alloc [(.int .i64), (.int .i64), .str, (.lst 1), (.lst 1), (.lst 8), (.int .i64), (.int .i64)] [(.d (.int .i64 0)),
  (.d (.int .i64 0)), (.d (.str ⟨#[]⟩)), (.nilL 1), (.nilL 1), (.nilL 8), (.d (.int .i64 0)), (.d (.int .i64 0))]), [], none⟩, ⟨(some 3), (.alloc [(.int .i64), .str, (.int .i64),
  (.int .i64)] [(.d (.int .i64 0)), (.d (.str ⟨#[]⟩)), (.d (.int .i64 0)), (.d (.int .i64 0))]), [], none⟩]) (.seq none (.region false [⟨(some 4), (.alloc [(.int .i64), (.int .i64), .str, (.lst 1),
  (.lst 1), (.lst 8), (.int .i64), (.int .i64)] [(.d (.int .i64 0)), (.d (.int .i64 0)), (.d (.str ⟨#[]⟩)), (.nilL 1), (.nilL 1), (.nilL 8), (.d (.int .i64 0)), (.d (.int .i64 0))]), [],
  none⟩]) (.seq none (.region false [⟨(some 6), (.mov (.t 0)), [], none⟩, ⟨(some 7), (.mkF 23 [(.t 4)]), [], none⟩, ⟨(some 8), (.call 22 [(.t 6), (.t 7)]), [0, 1], none⟩, ⟨(some 5),
  (.alloc [(.int .i64), .str, (.int .i64), (.int .i64)] [(.d (.int .i64 0)), (.d (.str ⟨#[]⟩)), (.d (.int .i64 0)), (.d (.int .i64 0))]), [], none⟩, ⟨none, (.store 4 (.t 5) (.t 8)), [3, 2, 2, 0, 1, 2,
  3], none⟩]) (.seq (some [2, 3, 4, 5]) (.seq none (.region false [⟨(some 9), (.faddr 0 (.t 5)), [], none⟩, ⟨(some 10), (.load false 1 (.t 9)), [0], none⟩, ⟨(some 11),
  (.ibin .i64 .eql (.t 10) (.k (.one (.d (.int .i64 0))))), [1], none⟩]) (.cond (.t 11) (.region false [⟨(some 12), (.load true 8 (.t 4)), [], none⟩, ⟨(some 13), (.call 25 [(.t 12)]), [0], none⟩,
  ⟨none, (.store 4 (.t 5) (.t 13)), [1, 1, 0, 1], none⟩]) .skip)) j11_0))))⟩
theorem c11 : compFunc Try.prog [none, none, none, some [2, 3, 4, 5], none, some [2, 3, 4, 5], none, none, none] Try.f11 = some sf11 := by kernel_rfl
/-! sortilege/sortilegelaw06.FewProgram -/
def j14_2 : SCode :=
  (.region false [⟨(some 28), (.mov (.t 7)), [], none⟩, ⟨(some 29), (.ibin .i64 .add (.t 28) (.k (.one (.d (.int .i64 1))))), [0], none⟩, ⟨(some 7), (.mov (.t 29)), [1, 0, 1], none⟩])
def j14_1 : SCode :=
  (.seq (some [0, 3, 5, 6, 7]) (.block 1 (.region false [⟨(some 30), (.mov (.t 6)), [], none⟩, ⟨(some 31), (.faddr 0 (.t 3)), [], none⟩, ⟨(some 32), (.load false 1 (.t 31)), [1], none⟩, ⟨(some 33),
  (.mov (.t 7)), [], none⟩, ⟨(some 34), (.iaddr 5 (.t 32) (.t 33)), [2, 3], none⟩, ⟨(some 35), (.faddr 1 (.t 34)), [4], none⟩, ⟨(some 36), (.load true 2 (.t 35)), [5], none⟩, ⟨(some 37),
  (.lit 55 2 [(.t 36)]), [6], none⟩, ⟨(some 38), (.app 55 2 32 (.t 30) (.t 37)), [0, 7], none⟩, ⟨(some 6), (.mov (.t 38)), [8, 8, 0, 1, 2, 3, 4, 5, 6, 7, 8], none⟩])) j14_2)
def lb14_0 : SCode :=
  (.seq (some [0, 3, 5, 6, 7]) (.seq none (.region false [⟨(some 23), (.mov (.t 7)), [], none⟩, ⟨(some 24), (.faddr 0 (.t 3)), [], none⟩, ⟨(some 25), (.load false 1 (.t 24)), [1], none⟩, ⟨(some 26),
  (.len false (.t 25)), [2], none⟩, ⟨(some 27), (.ibin .i64 .lss (.t 23) (.t 26)), [0, 3], none⟩]) (.cond (.t 27) .skip (.exit 0))) j14_1)
def j14_7 : SCode :=
  (.region false [⟨(some 81), (.mov (.t 9)), [], none⟩, ⟨(some 82), (.ibin .i64 .add (.t 81) (.k (.one (.d (.int .i64 1))))), [0], none⟩, ⟨(some 9), (.mov (.t 82)), [1, 0, 1], none⟩])
def j14_6 : SCode :=
  (.seq (some [0, 3, 5, 6, 8, 9]) (.block 5 (.region false [⟨(some 83), (.mov (.t 6)), [], none⟩, ⟨(some 84), (.faddr 1 (.t 3)), [], none⟩, ⟨(some 85), (.load false 1 (.t 84)), [1], none⟩, ⟨(some 86),
  (.mov (.t 8)), [], none⟩, ⟨(some 87), (.iaddr 14 (.t 85) (.t 86)), [2, 3], none⟩, ⟨(some 88), (.faddr 1 (.t 87)), [4], none⟩, ⟨(some 89), (.load false 1 (.t 88)), [5], none⟩, ⟨(some 90),
  (.mov (.t 9)), [], none⟩, ⟨(some 91), (.iaddr 5 (.t 89) (.t 90)), [6, 7], none⟩, ⟨(some 92), (.faddr 1 (.t 91)), [8], none⟩, ⟨(some 93), (.load true 2 (.t 92)), [9], none⟩, ⟨(some 94),
  (.lit 55 2 [(.t 93)]), [10], none⟩, ⟨(some 95), (.app 55 2 32 (.t 83) (.t 94)), [0, 11], none⟩, ⟨(some 6), (.mov (.t 95)), [12, 12, 0, 1, 2, 3, 4, 5, 6, 7, 8, 9, 10, 11, 12], none⟩])) j14_7)
def lb14_2 : SCode :=
  (.seq (some [0, 3, 5, 6, 8, 9]) (.seq none (.region false [⟨(some 72), (.mov (.t 9)), [], none⟩, ⟨(some 73), (.faddr 1 (.t 3)), [], none⟩, ⟨(some 74), (.load false 1 (.t 73)), [1], none⟩, ⟨(some 75),
  (.mov (.t 8)), [], none⟩, ⟨(some 76), (.iaddr 14 (.t 74) (.t 75)), [2, 3], none⟩, ⟨(some 77), (.faddr 1 (.t 76)), [4], none⟩, ⟨(some 78), (.load false 1 (.t 77)), [5], none⟩, ⟨(some 79),
  (.len false (.t 78)), [6], none⟩, ⟨(some 80), (.ibin .i64 .lss (.t 72) (.t 79)), [0, 7], none⟩]) (.cond (.t 80) .skip (.exit 4))) j14_6)
def j14_5 : SCode :=
  (.seq none (.region false [⟨(some 54), (.mov (.t 5)), [], none⟩, ⟨(some 55), (.faddr 1 (.t 3)), [], none⟩, ⟨(some 56), (.load false 1 (.t 55)), [1], none⟩, ⟨(some 57), (.mov (.t 8)), [], none⟩,
  ⟨(some 58), (.iaddr 14 (.t 56) (.t 57)), [2, 3], none⟩, ⟨(some 59), (.faddr 4 (.t 58)), [4], none⟩, ⟨(some 60), (.load true 8 (.t 59)), [5], none⟩, ⟨(some 61), (.lit 27 8 [(.t 60)]), [6], none⟩,
  ⟨(some 62), (.app 27 8 120 (.t 54) (.t 61)), [0, 7], none⟩, ⟨(some 5), (.mov (.t 62)), [8, 8, 0, 1, 2, 3, 4, 5, 6, 7, 8], none⟩]) (.seq none (.region false [⟨(some 63), (.mov (.t 6)), [], none⟩,
  ⟨(some 64), (.faddr 1 (.t 3)), [], none⟩, ⟨(some 65), (.load false 1 (.t 64)), [1], none⟩, ⟨(some 66), (.mov (.t 8)), [], none⟩, ⟨(some 67), (.iaddr 14 (.t 65) (.t 66)), [2, 3], none⟩, ⟨(some 68),
  (.faddr 2 (.t 67)), [4], none⟩, ⟨(some 69), (.load true 2 (.t 68)), [5], none⟩, ⟨(some 70), (.lit 55 2 [(.t 69)]), [6], none⟩, ⟨(some 71), (.app 55 2 32 (.t 63) (.t 70)), [0, 7], none⟩, ⟨(some 6),
  (.mov (.t 71)), [8, 8, 0, 1, 2, 3, 4, 5, 6, 7, 8], none⟩]) (.seq none (.region false [⟨(some 9), (.mov (.k (.one (.d (.int .i64 0))))), [], none⟩]) (.block 4 (.loop [0, 3, 5, 6, 8, 9] lb14_2)))))
def j14_8 : SCode :=
  (.region false [⟨(some 44), (.mov (.t 8)), [], none⟩, ⟨(some 45), (.ibin .i64 .add (.t 44) (.k (.one (.d (.int .i64 1))))), [0], none⟩, ⟨(some 8), (.mov (.t 45)), [1, 0, 1], none⟩])
def j14_4 : SCode :=
  (.seq (some [0, 3, 5, 6, 8]) (.block 3 (.seq (some [0, 3, 5, 6, 8]) (.seq none (.region false [⟨(some 46), (.faddr 1 (.t 3)), [], none⟩, ⟨(some 47), (.load false 1 (.t 46)), [0], none⟩, ⟨(some 48),
  (.mov (.t 8)), [], none⟩, ⟨(some 49), (.iaddr 14 (.t 47) (.t 48)), [1, 2], none⟩, ⟨(some 50), (.faddr 1 (.t 49)), [3], none⟩, ⟨(some 51), (.load false 1 (.t 50)), [4], none⟩, ⟨(some 52),
  (.len false (.t 51)), [5], none⟩, ⟨(some 53), (.ibin .i64 .gtr (.t 52) (.k (.one (.d (.int .i64 100))))), [6], none⟩]) (.cond (.t 53) (.seq none (.region false [⟨(some 4),
  (.mov (.k (.one (.d (.bool false))))), [], none⟩]) .ret) .skip)) j14_5)) j14_8)
def lb14_1 : SCode :=
  (.seq (some [0, 3, 5, 6, 8]) (.seq none (.region false [⟨(some 39), (.mov (.t 8)), [], none⟩, ⟨(some 40), (.faddr 1 (.t 3)), [], none⟩, ⟨(some 41), (.load false 1 (.t 40)), [1], none⟩, ⟨(some 42),
  (.len false (.t 41)), [2], none⟩, ⟨(some 43), (.ibin .i64 .lss (.t 39) (.t 42)), [0, 3], none⟩]) (.cond (.t 43) .skip (.exit 2))) j14_4)
def j14_9 : SCode :=
  (.seq none (.region false [⟨(some 96), (.mov (.t 0)), [], none⟩, ⟨(some 97), (.mov (.t 5)), [], none⟩, ⟨(some 98), (.call 30 [(.t 96), (.t 97)]), [0, 1], none⟩, ⟨(some 99), (.mov (.t 98)), [2, 2],
  none⟩, ⟨(some 100), (.mov (.t 0)), [3], (some (3, (99, true)))⟩, ⟨(some 101), (.mov (.t 6)), [3], (some (3, (99, true)))⟩, ⟨(some 102), (.call 31 [(.t 100), (.t 101)]), [4, 5, 3, 3], (some (3, (99,
  true)))⟩, ⟨(some 103), (.pick (.t 99) (.t 102) (.k (.one (.d (.bool false))))), [3, 6], none⟩, ⟨(some 4), (.mov (.t 103)), [7, 6, 0, 1, 2, 3, 4, 5, 6, 7], none⟩]) .ret)
def j14_3 : SCode :=
  (.seq (some [0, 5, 6]) (.seq none (.region false [⟨(some 8), (.mov (.k (.one (.d (.int .i64 0))))), [], none⟩]) (.block 2 (.loop [0, 3, 5, 6, 8] lb14_1))) j14_9)
def j14_0 : SCode :=
  (.seq none (.region false [⟨(some 20), (.faddr 2 (.t 3)), [], none⟩, ⟨(some 21), (.load true 8 (.t 20)), [0], none⟩, ⟨(some 22), (.lit 27 8 [(.t 21)]), [1], none⟩, ⟨(some 5), (.mov (.t 22)), [2, 0, 1,
  2], none⟩]) (.seq none (.region false [⟨(some 6), (.mov (.k (.one (.nilL 2)))), [], none⟩]) (.seq (some [0, 3, 5, 6]) (.seq none (.region false [⟨(some 7), (.mov (.k (.one (.d (.int .i64 0))))), [],
  none⟩]) (.block 0 (.loop [0, 3, 5, 6, 7] lb14_0))) j14_3)))
def sf14 : SFunc :=
  ⟨2, [(.tmp 4)], (.seq none (.region false [⟨(some 3), (.box [(.lst 5), (.lst 14), (.int .i64), (.int .i64), .str, (.lst 1), (.lst 1), (.lst 8), (.int .i64), (.int .i64)] (.t 1)), [], none⟩, ⟨(some 4),
  (.mov (.k (.one (.d (.bool false))))), [], none⟩]) (.seq (some [0, 3]) (.seq none (.region false [⟨(some 10), (.faddr 0 (.t 3)), [], none⟩, ⟨(some 11), (.load false 1 (.t 10)), [0], none⟩,
  ⟨(some 12), (.len false (.t 11)), [1], none⟩, ⟨(some 13), (.ibin .i64 .gtr (.t 12) (.k (.one (.d (.int .i64 100))))), [2], none⟩, ⟨(some 14), (.mov (.t 13)), [3], none⟩, ⟨(some 15),
  (.faddr 1 (.t 3)), [4], (some (4, (14, false)))⟩, ⟨(some 16), (.load false 1 (.t 15)), [5, 4], (some (4, (14, false)))⟩, ⟨(some 17), (.len false (.t 16)), [6, 4], (some (4, (14, false)))⟩,
  ⟨(some 18), (.ibin .i64 .gtr (.t 17) (.k (.one (.d (.int .i64 100))))), [7, 4], (some (4, (14, false)))⟩, ⟨(some 19), (.pick (.t 14) (.k (.one (.d (.bool true)))) (.t 18)), [4, 8],
  none⟩]) (.cond (.t 19) (.seq none (.region false [⟨(some 4), (.mov (.k (.one (.d (.bool false))))), [], none⟩]) .ret) .skip)) j14_0))⟩
theorem c14 : compFunc Try.prog [none, some [0, 3], none, none, none, none, some [0, 3, 5, 6], none, some [0, 3, 5, 6, 7], some [0, 3, 5, 6, 7], none, some [0, 3, 5, 6, 7], some [0, 5, 6], none, some [0, 3, 5, 6, 8], some [0, 3, 5, 6, 8], none, some [0, 3, 5, 6, 8], some [0, 3, 5, 6, 8], none, none, none, none, none, some [0, 3, 5, 6, 8, 9], some [0, 3, 5, 6, 8, 9], none, some [0, 3, 5, 6, 8, 9], none] Try.f14 = some sf14 := by kernel_rfl
/-! sortilege/parser.Same -/
def sf15 : SFunc :=
  ⟨2, [(.tmp 4)], (.seq none (.region false [⟨(some 2), (.box [(.int .i64), (.int .i64), .str, (.lst 1), (.lst 1), (.lst 8), (.int .i64), (.int .i64)] (.t 0)), [], none⟩, ⟨(some 3), (.box [(.int .i64),
  (.int .i64), .str, (.lst 1), (.lst 1), (.lst 8), (.int .i64), (.int .i64)] (.t 1)), [], none⟩, ⟨(some 4), (.mov (.k (.one (.d (.bool false))))), [], none⟩]) (.seq none (.region false [⟨(some 5),
  (.faddr 0 (.t 2)), [], none⟩, ⟨(some 6), (.load false 1 (.t 5)), [0], none⟩, ⟨(some 7), (.faddr 0 (.t 3)), [], none⟩, ⟨(some 8), (.load false 1 (.t 7)), [2], none⟩, ⟨(some 9),
  (.ibin .i64 .eql (.t 6) (.t 8)), [1, 3], none⟩, ⟨(some 10), (.mov (.t 9)), [4], none⟩, ⟨(some 11), (.faddr 1 (.t 2)), [5], (some (5, (10, true)))⟩, ⟨(some 12), (.load false 1 (.t 11)), [6, 5],
  (some (5, (10, true)))⟩, ⟨(some 13), (.faddr 1 (.t 3)), [5], (some (5, (10, true)))⟩, ⟨(some 14), (.load false 1 (.t 13)), [8, 5], (some (5, (10, true)))⟩, ⟨(some 15),
  (.ibin .i64 .eql (.t 12) (.t 14)), [7, 9, 5], (some (5, (10, true)))⟩, ⟨(some 16), (.pick (.t 10) (.t 15) (.k (.one (.d (.bool false))))), [5, 10], none⟩, ⟨(some 17), (.mov (.t 16)), [11, 5], none⟩,
  ⟨(some 18), (.faddr 2 (.t 2)), [12], (some (12, (17, true)))⟩, ⟨(some 19), (.load false 1 (.t 18)), [13, 12], (some (12, (17, true)))⟩, ⟨(some 20), (.faddr 2 (.t 3)), [12], (some (12, (17, true)))⟩,
  ⟨(some 21), (.load false 1 (.t 20)), [15, 12], (some (12, (17, true)))⟩, ⟨(some 22), (.sbin .eql (.t 19) (.t 21)), [14, 16, 12], (some (12, (17, true)))⟩, ⟨(some 23),
  (.pick (.t 17) (.t 22) (.k (.one (.d (.bool false))))), [12, 17], none⟩, ⟨(some 24), (.mov (.t 23)), [18, 12], none⟩, ⟨(some 25), (.faddr 3 (.t 2)), [19], (some (19, (24, true)))⟩, ⟨(some 26),
  (.load false 1 (.t 25)), [20, 19], (some (19, (24, true)))⟩, ⟨(some 27), (.faddr 3 (.t 3)), [19], (some (19, (24, true)))⟩, ⟨(some 28), (.load false 1 (.t 27)), [22, 19], (some (19, (24, true)))⟩,
  ⟨(some 29), (.call 32 [(.t 26), (.t 28)]), [21, 23, 19, 19], (some (19, (24, true)))⟩, ⟨(some 30), (.pick (.t 24) (.t 29) (.k (.one (.d (.bool false))))), [19, 24], none⟩, ⟨(some 31),
  (.mov (.t 30)), [25, 24], none⟩, ⟨(some 32), (.faddr 4 (.t 2)), [26], (some (26, (31, true)))⟩, ⟨(some 33), (.load false 1 (.t 32)), [27, 26], (some (26, (31, true)))⟩, ⟨(some 34),
  (.faddr 4 (.t 3)), [26], (some (26, (31, true)))⟩, ⟨(some 35), (.load false 1 (.t 34)), [29, 26], (some (26, (31, true)))⟩, ⟨(some 36), (.call 33 [(.t 33), (.t 35)]), [28, 30, 26, 26], (some (26,
  (31, true)))⟩, ⟨(some 37), (.pick (.t 31) (.t 36) (.k (.one (.d (.bool false))))), [26, 31], none⟩, ⟨(some 38), (.mov (.t 37)), [32, 31], none⟩, ⟨(some 39), (.faddr 5 (.t 2)), [33], (some (33, (38,
  true)))⟩, ⟨(some 40), (.load false 1 (.t 39)), [34, 33], (some (33, (38, true)))⟩, ⟨(some 41), (.faddr 5 (.t 3)), [33], (some (33, (38, true)))⟩, ⟨(some 42), (.load false 1 (.t 41)), [36, 33],
  (some (33, (38, true)))⟩, ⟨(some 43), (.call 34 [(.t 40), (.t 42), (.k (.one (.fn 15 [])))]), [35, 37, 33, 33], (some (33, (38, true)))⟩, ⟨(some 44),
  (.pick (.t 38) (.t 43) (.k (.one (.d (.bool false))))), [33, 38], none⟩, ⟨(some 4), (.mov (.t 44)), [39, 38, 0, 1, 2, 3, 4, 5, 6, 7, 8, 9, 10, 11, 12, 13, 14, 15, 16, 17, 18, 19, 20, 21, 22, 23, 24,
  25, 26, 27, 28, 29, 30, 31, 32, 33, 34, 35, 36, 37, 38, 39], none⟩]) .ret))⟩
theorem c15 : compFunc Try.prog [none, none] Try.f15 = some sf15 := by kernel_rfl
/-! sortilege/sortilegeref06.Same -/
def j16_2 : SCode :=
  (.region false [⟨(some 55), (.mov (.t 5)), [], none⟩, ⟨(some 56), (.ibin .i64 .add (.t 55) (.k (.one (.d (.int .i64 1))))), [0], none⟩, ⟨(some 5), (.mov (.t 56)), [1, 0, 1], none⟩])
def j16_1 : SCode :=
  (.seq (some [2, 3, 5]) (.block 1 (.seq none (.region true [⟨(some 57), (.faddr 5 (.t 2)), [], none⟩, ⟨(some 58), (.load false 1 (.t 57)), [0], none⟩, ⟨(some 59), (.mov (.t 5)), [], none⟩, ⟨(some 60),
  (.iaddr 8 (.t 58) (.t 59)), [1, 2], none⟩, ⟨(some 61), (.load true 8 (.t 60)), [3], none⟩, ⟨(some 62), (.faddr 5 (.t 3)), [], none⟩, ⟨(some 63), (.load false 1 (.t 62)), [5], none⟩, ⟨(some 64),
  (.mov (.t 5)), [], none⟩, ⟨(some 65), (.iaddr 8 (.t 63) (.t 64)), [6, 7], none⟩, ⟨(some 66), (.load true 8 (.t 65)), [8], none⟩, ⟨(some 67), (.call 16 [(.t 61), (.t 66)]), [4, 9], none⟩, ⟨(some 68),
  (.inot (.t 67)), [10], none⟩]) (.cond (.t 68) (.seq none (.region false [⟨(some 4), (.mov (.k (.one (.d (.bool false))))), [], none⟩]) .ret) .skip))) j16_2)
def lb16_0 : SCode :=
  (.seq (some [2, 3, 5]) (.seq none (.region false [⟨(some 50), (.mov (.t 5)), [], none⟩, ⟨(some 51), (.faddr 5 (.t 2)), [], none⟩, ⟨(some 52), (.load false 1 (.t 51)), [1], none⟩, ⟨(some 53),
  (.len false (.t 52)), [2], none⟩, ⟨(some 54), (.ibin .i64 .lss (.t 50) (.t 53)), [0, 3], none⟩]) (.cond (.t 54) .skip (.exit 0))) j16_1)
def j16_3 : SCode :=
  (.seq none (.region false [⟨(some 4), (.mov (.k (.one (.d (.bool true))))), [], none⟩]) .ret)
def j16_0 : SCode :=
  (.seq (some []) (.seq none (.region false [⟨(some 5), (.mov (.k (.one (.d (.int .i64 0))))), [], none⟩]) (.block 0 (.loop [2, 3, 5] lb16_0))) j16_3)
def sf16 : SFunc :=
  ⟨2, [(.tmp 4)], (.seq none (.region false [⟨(some 2), (.box [(.int .i64), (.int .i64), .str, (.lst 1), (.lst 1), (.lst 8), (.int .i64), (.int .i64)] (.t 0)), [], none⟩, ⟨(some 3), (.box [(.int .i64),
  (.int .i64), .str, (.lst 1), (.lst 1), (.lst 8), (.int .i64), (.int .i64)] (.t 1)), [], none⟩, ⟨(some 4), (.mov (.k (.one (.d (.bool false))))), [], none⟩]) (.seq (some [2,
  3]) (.seq none (.region false [⟨(some 6), (.faddr 0 (.t 2)), [], none⟩, ⟨(some 7), (.load false 1 (.t 6)), [0], none⟩, ⟨(some 8), (.faddr 0 (.t 3)), [], none⟩, ⟨(some 9), (.load false 1 (.t 8)),
  [2], none⟩, ⟨(some 10), (.ibin .i64 .neq (.t 7) (.t 9)), [1, 3], none⟩, ⟨(some 11), (.mov (.t 10)), [4], none⟩, ⟨(some 12), (.faddr 1 (.t 2)), [5], (some (5, (11, false)))⟩, ⟨(some 13),
  (.load false 1 (.t 12)), [6, 5], (some (5, (11, false)))⟩, ⟨(some 14), (.faddr 1 (.t 3)), [5], (some (5, (11, false)))⟩, ⟨(some 15), (.load false 1 (.t 14)), [8, 5], (some (5, (11, false)))⟩,
  ⟨(some 16), (.ibin .i64 .neq (.t 13) (.t 15)), [7, 9, 5], (some (5, (11, false)))⟩, ⟨(some 17), (.pick (.t 11) (.k (.one (.d (.bool true)))) (.t 16)), [5, 10], none⟩, ⟨(some 18), (.mov (.t 17)),
  [11, 5], none⟩, ⟨(some 19), (.faddr 2 (.t 2)), [12], (some (12, (18, false)))⟩, ⟨(some 20), (.load false 1 (.t 19)), [13, 12], (some (12, (18, false)))⟩, ⟨(some 21), (.faddr 2 (.t 3)), [12],
  (some (12, (18, false)))⟩, ⟨(some 22), (.load false 1 (.t 21)), [15, 12], (some (12, (18, false)))⟩, ⟨(some 23), (.sbin .neq (.t 20) (.t 22)), [14, 16, 12], (some (12, (18, false)))⟩, ⟨(some 24),
  (.pick (.t 18) (.k (.one (.d (.bool true)))) (.t 23)), [12, 17], none⟩, ⟨(some 25), (.mov (.t 24)), [18, 12], none⟩, ⟨(some 26), (.faddr 3 (.t 2)), [19], (some (19, (25, false)))⟩, ⟨(some 27),
  (.load false 1 (.t 26)), [20, 19], (some (19, (25, false)))⟩, ⟨(some 28), (.faddr 3 (.t 3)), [19], (some (19, (25, false)))⟩, ⟨(some 29), (.load false 1 (.t 28)), [22, 19], (some (19, (25,
  false)))⟩, ⟨(some 30), (.call 35 [(.t 27), (.t 29)]), [21, 23, 19, 19], (some (19, (25, false)))⟩, ⟨(some 31), (.inot (.t 30)), [24, 19], (some (19, (25, false)))⟩, ⟨(some 32),
  (.pick (.t 25) (.k (.one (.d (.bool true)))) (.t 31)), [19, 25], none⟩, ⟨(some 33), (.mov (.t 32)), [26, 24], none⟩, ⟨(some 34), (.faddr 4 (.t 2)), [27], (some (27, (33, false)))⟩, ⟨(some 35),
  (.load false 1 (.t 34)), [28, 27], (some (27, (33, false)))⟩, ⟨(some 36), (.faddr 4 (.t 3)), [27], (some (27, (33, false)))⟩, ⟨(some 37), (.load false 1 (.t 36)), [30, 27], (some (27, (33,
  false)))⟩, ⟨(some 38), (.call 36 [(.t 35), (.t 37)]), [29, 31, 27, 27], (some (27, (33, false)))⟩, ⟨(some 39), (.inot (.t 38)), [32, 27], (some (27, (33, false)))⟩, ⟨(some 40),
  (.pick (.t 33) (.k (.one (.d (.bool true)))) (.t 39)), [27, 33], none⟩, ⟨(some 41), (.mov (.t 40)), [34, 32], none⟩, ⟨(some 42), (.faddr 5 (.t 2)), [35], (some (35, (41, false)))⟩, ⟨(some 43),
  (.load false 1 (.t 42)), [36, 35], (some (35, (41, false)))⟩, ⟨(some 44), (.len false (.t 43)), [37, 35], (some (35, (41, false)))⟩, ⟨(some 45), (.faddr 5 (.t 3)), [35], (some (35, (41, false)))⟩,
  ⟨(some 46), (.load false 1 (.t 45)), [39, 35], (some (35, (41, false)))⟩, ⟨(some 47), (.len false (.t 46)), [40, 35], (some (35, (41, false)))⟩, ⟨(some 48), (.ibin .i64 .neq (.t 44) (.t 47)), [38,
  41, 35], (some (35, (41, false)))⟩, ⟨(some 49), (.pick (.t 41) (.k (.one (.d (.bool true)))) (.t 48)), [35, 42], none⟩]) (.cond (.t 49) (.seq none (.region false [⟨(some 4),
  (.mov (.k (.one (.d (.bool false))))), [], none⟩]) .ret) .skip)) j16_0))⟩
theorem c16 : compFunc Try.prog [none, some [2, 3], none, none, some [], none, some [2, 3, 5], some [2, 3, 5], none, some [2, 3, 5], none, none, none] Try.f16 = some sf16 := by kernel_rfl
/-! sortilege/parser.SameProgram -/
def sf17 : SFunc :=
  ⟨2, [(.tmp 4)], (.seq none (.region false [⟨(some 2), (.box [(.lst 5), (.lst 14), (.int .i64), (.int .i64), .str, (.lst 1), (.lst 1), (.lst 8), (.int .i64), (.int .i64)] (.t 0)), [], none⟩, ⟨(some 3),
  (.box [(.lst 5), (.lst 14), (.int .i64), (.int .i64), .str, (.lst 1), (.lst 1), (.lst 8), (.int .i64), (.int .i64)] (.t 1)), [], none⟩, ⟨(some 4), (.mov (.k (.one (.d (.bool false))))), [],
  none⟩]) (.seq none (.region false [⟨(some 5), (.faddr 0 (.t 2)), [], none⟩, ⟨(some 6), (.load false 1 (.t 5)), [0], none⟩, ⟨(some 7), (.faddr 0 (.t 3)), [], none⟩, ⟨(some 8), (.load false 1 (.t 7)),
  [2], none⟩, ⟨(some 9), (.call 37 [(.t 6), (.t 8), (.k (.one (.fn 38 [])))]), [1, 3], none⟩, ⟨(some 10), (.mov (.t 9)), [4, 4], none⟩, ⟨(some 11), (.faddr 1 (.t 2)), [5], (some (5, (10, true)))⟩,
  ⟨(some 12), (.load false 1 (.t 11)), [6, 5], (some (5, (10, true)))⟩, ⟨(some 13), (.faddr 1 (.t 3)), [5], (some (5, (10, true)))⟩, ⟨(some 14), (.load false 1 (.t 13)), [8, 5], (some (5, (10,
  true)))⟩, ⟨(some 15), (.call 39 [(.t 12), (.t 14), (.k (.one (.fn 40 [])))]), [7, 9, 5, 5], (some (5, (10, true)))⟩, ⟨(some 16), (.pick (.t 10) (.t 15) (.k (.one (.d (.bool false))))), [5, 10],
  none⟩, ⟨(some 17), (.mov (.t 16)), [11, 10], none⟩, ⟨(some 18), (.faddr 2 (.t 2)), [12], (some (12, (17, true)))⟩, ⟨(some 19), (.load true 8 (.t 18)), [13, 12], (some (12, (17, true)))⟩, ⟨(some 20),
  (.faddr 2 (.t 3)), [12], (some (12, (17, true)))⟩, ⟨(some 21), (.load true 8 (.t 20)), [15, 12], (some (12, (17, true)))⟩, ⟨(some 22), (.call 15 [(.t 19), (.t 21)]), [14, 16, 12, 12], (some (12,
  (17, true)))⟩, ⟨(some 23), (.pick (.t 17) (.t 22) (.k (.one (.d (.bool false))))), [12, 17], none⟩, ⟨(some 4), (.mov (.t 23)), [18, 17, 0, 1, 2, 3, 4, 5, 6, 7, 8, 9, 10, 11, 12, 13, 14, 15, 16, 17,
  18], none⟩]) .ret))⟩
theorem c17 : compFunc Try.prog [none, none] Try.f17 = some sf17 := by kernel_rfl
/-! sortilege/sortilegeref06.SameProgram -/
def j18_2 : SCode :=
  (.region false [⟨(some 28), (.mov (.t 5)), [], none⟩, ⟨(some 29), (.ibin .i64 .add (.t 28) (.k (.one (.d (.int .i64 1))))), [0], none⟩, ⟨(some 5), (.mov (.t 29)), [1, 0, 1], none⟩])
def j18_1 : SCode :=
  (.seq (some [2, 3, 5]) (.block 1 (.seq none (.region true [⟨(some 30), (.faddr 1 (.t 2)), [], none⟩, ⟨(some 31), (.load false 1 (.t 30)), [0], none⟩, ⟨(some 32), (.mov (.t 5)), [], none⟩, ⟨(some 33),
  (.iaddr 14 (.t 31) (.t 32)), [1, 2], none⟩, ⟨(some 34), (.load true 14 (.t 33)), [3], none⟩, ⟨(some 35), (.faddr 1 (.t 3)), [], none⟩, ⟨(some 36), (.load false 1 (.t 35)), [5], none⟩, ⟨(some 37),
  (.mov (.t 5)), [], none⟩, ⟨(some 38), (.iaddr 14 (.t 36) (.t 37)), [6, 7], none⟩, ⟨(some 39), (.load true 14 (.t 38)), [8], none⟩, ⟨(some 6), (.alloc [.str, (.lst 5), (.int .i64), (.lst 2),
  (.int .i64), (.int .i64), .str, (.lst 1), (.lst 1), (.lst 8), (.int .i64), (.int .i64), (.int .i64), (.int .i64)] [(.d (.str ⟨#[]⟩)), (.nilL 5), (.d (.int .i64 0)), (.nilL 2), (.d (.int .i64 0)),
  (.d (.int .i64 0)), (.d (.str ⟨#[]⟩)), (.nilL 1), (.nilL 1), (.nilL 8), (.d (.int .i64 0)), (.d (.int .i64 0)), (.d (.int .i64 0)), (.d (.int .i64 0))]), [], none⟩, ⟨(some 7), (.alloc [.str,
  (.lst 5), (.int .i64), (.lst 2), (.int .i64), (.int .i64), .str, (.lst 1), (.lst 1), (.lst 8), (.int .i64), (.int .i64), (.int .i64), (.int .i64)] [(.d (.str ⟨#[]⟩)), (.nilL 5), (.d (.int .i64 0)),
  (.nilL 2), (.d (.int .i64 0)), (.d (.int .i64 0)), (.d (.str ⟨#[]⟩)), (.nilL 1), (.nilL 1), (.nilL 8), (.d (.int .i64 0)), (.d (.int .i64 0)), (.d (.int .i64 0)), (.d (.int .i64 0))]), [], none⟩,
  ⟨none, (.store 14 (.t 6) (.t 34)), [10, 4, 0, 1, 2, 3, 4, 10, 11], none⟩, ⟨none, (.store 14 (.t 7) (.t 39)), [11, 9, 12, 0, 1, 2, 3, 4, 5, 6, 7, 8, 9, 10, 11, 12],
  none⟩]) (.seq none (.region false [⟨(some 40), (.faddr 0 (.t 6)), [], none⟩, ⟨(some 41), (.load false 1 (.t 40)), [0], none⟩, ⟨(some 42), (.faddr 0 (.t 7)), [], none⟩, ⟨(some 43),
  (.load false 1 (.t 42)), [2], none⟩, ⟨(some 44), (.sbin .neq (.t 41) (.t 43)), [1, 3], none⟩, ⟨(some 45), (.mov (.t 44)), [4], none⟩, ⟨(some 46), (.faddr 1 (.t 6)), [5], (some (5, (45, false)))⟩,
  ⟨(some 47), (.load false 1 (.t 46)), [6, 5], (some (5, (45, false)))⟩, ⟨(some 48), (.faddr 1 (.t 7)), [5], (some (5, (45, false)))⟩, ⟨(some 49), (.load false 1 (.t 48)), [8, 5], (some (5, (45,
  false)))⟩, ⟨(some 50), (.call 42 [(.t 47), (.t 49)]), [7, 9, 5, 5], (some (5, (45, false)))⟩, ⟨(some 51), (.inot (.t 50)), [10, 5], (some (5, (45, false)))⟩, ⟨(some 52),
  (.pick (.t 45) (.k (.one (.d (.bool true)))) (.t 51)), [5, 11], none⟩, ⟨(some 53), (.mov (.t 52)), [12, 10], none⟩, ⟨(some 54), (.faddr 2 (.t 6)), [13], (some (13, (53, false)))⟩, ⟨(some 55),
  (.load true 2 (.t 54)), [14, 13], (some (13, (53, false)))⟩, ⟨(some 56), (.faddr 2 (.t 7)), [13], (some (13, (53, false)))⟩, ⟨(some 57), (.load true 2 (.t 56)), [16, 13], (some (13, (53, false)))⟩,
  ⟨(some 58), (.call 43 [(.t 55), (.t 57)]), [15, 17, 13, 13], (some (13, (53, false)))⟩, ⟨(some 59), (.inot (.t 58)), [18, 13], (some (13, (53, false)))⟩, ⟨(some 60),
  (.pick (.t 53) (.k (.one (.d (.bool true)))) (.t 59)), [13, 19], none⟩, ⟨(some 61), (.mov (.t 60)), [20, 18], none⟩, ⟨(some 62), (.faddr 4 (.t 6)), [21], (some (21, (61, false)))⟩, ⟨(some 63),
  (.load true 8 (.t 62)), [22, 21], (some (21, (61, false)))⟩, ⟨(some 64), (.faddr 4 (.t 7)), [21], (some (21, (61, false)))⟩, ⟨(some 65), (.load true 8 (.t 64)), [24, 21], (some (21, (61, false)))⟩,
  ⟨(some 66), (.call 16 [(.t 63), (.t 65)]), [23, 25, 21, 21], (some (21, (61, false)))⟩, ⟨(some 67), (.inot (.t 66)), [26, 21], (some (21, (61, false)))⟩, ⟨(some 68),
  (.pick (.t 61) (.k (.one (.d (.bool true)))) (.t 67)), [21, 27], none⟩]) (.cond (.t 68) (.seq none (.region false [⟨(some 4), (.mov (.k (.one (.d (.bool false))))), [],
  none⟩]) .ret) .skip)))) j18_2)
def lb18_0 : SCode :=
  (.seq (some [2, 3, 5]) (.seq none (.region false [⟨(some 23), (.mov (.t 5)), [], none⟩, ⟨(some 24), (.faddr 1 (.t 2)), [], none⟩, ⟨(some 25), (.load false 1 (.t 24)), [1], none⟩, ⟨(some 26),
  (.len false (.t 25)), [2], none⟩, ⟨(some 27), (.ibin .i64 .lss (.t 23) (.t 26)), [0, 3], none⟩]) (.cond (.t 27) .skip (.exit 0))) j18_1)
def j18_3 : SCode :=
  (.seq none (.region false [⟨(some 69), (.faddr 2 (.t 2)), [], none⟩, ⟨(some 70), (.load true 8 (.t 69)), [0], none⟩, ⟨(some 71), (.faddr 2 (.t 3)), [], none⟩, ⟨(some 72), (.load true 8 (.t 71)), [2],
  none⟩, ⟨(some 73), (.call 16 [(.t 70), (.t 72)]), [1, 3], none⟩, ⟨(some 4), (.mov (.t 73)), [4, 4, 0, 1, 2, 3, 4], none⟩]) .ret)
def j18_0 : SCode :=
  (.seq (some [2, 3]) (.seq none (.region false [⟨(some 5), (.mov (.k (.one (.d (.int .i64 0))))), [], none⟩]) (.block 0 (.loop [2, 3, 5] lb18_0))) j18_3)
def sf18 : SFunc :=
  ⟨2, [(.tmp 4)], (.seq none (.region false [⟨(some 2), (.box [(.lst 5), (.lst 14), (.int .i64), (.int .i64), .str, (.lst 1), (.lst 1), (.lst 8), (.int .i64), (.int .i64)] (.t 0)), [], none⟩, ⟨(some 3),
  (.box [(.lst 5), (.lst 14), (.int .i64), (.int .i64), .str, (.lst 1), (.lst 1), (.lst 8), (.int .i64), (.int .i64)] (.t 1)), [], none⟩, ⟨(some 4), (.mov (.k (.one (.d (.bool false))))), [],
  none⟩]) (.seq (some [2, 3]) (.seq none (.region false [⟨(some 8), (.faddr 0 (.t 2)), [], none⟩, ⟨(some 9), (.load false 1 (.t 8)), [0], none⟩, ⟨(some 10), (.faddr 0 (.t 3)), [], none⟩, ⟨(some 11),
  (.load false 1 (.t 10)), [2], none⟩, ⟨(some 12), (.call 42 [(.t 9), (.t 11)]), [1, 3], none⟩, ⟨(some 13), (.inot (.t 12)), [4], none⟩, ⟨(some 14), (.mov (.t 13)), [5, 4], none⟩, ⟨(some 15),
  (.faddr 1 (.t 2)), [6], (some (6, (14, false)))⟩, ⟨(some 16), (.load false 1 (.t 15)), [7, 6], (some (6, (14, false)))⟩, ⟨(some 17), (.len false (.t 16)), [8, 6], (some (6, (14, false)))⟩,
  ⟨(some 18), (.faddr 1 (.t 3)), [6], (some (6, (14, false)))⟩, ⟨(some 19), (.load false 1 (.t 18)), [10, 6], (some (6, (14, false)))⟩, ⟨(some 20), (.len false (.t 19)), [11, 6], (some (6, (14,
  false)))⟩, ⟨(some 21), (.ibin .i64 .neq (.t 17) (.t 20)), [9, 12, 6], (some (6, (14, false)))⟩, ⟨(some 22), (.pick (.t 14) (.k (.one (.d (.bool true)))) (.t 21)), [6, 13],
  none⟩]) (.cond (.t 22) (.seq none (.region false [⟨(some 4), (.mov (.k (.one (.d (.bool false))))), [], none⟩]) .ret) .skip)) j18_0))⟩
theorem c18 : compFunc Try.prog [none, some [2, 3], none, none, some [2, 3], none, some [2, 3, 5], some [2, 3, 5], none, some [2, 3, 5], none, none, none, none] Try.f18 = some sf18 := by kernel_rfl
/-! sortilege/parser.Program -/
def j19_1 : SCode :=
  (.seq none (.region true [⟨(some 19), (.load true 10 (.t 4)), [], none⟩, ⟨(some 20), (.load true 4 (.t 5)), [], none⟩, ⟨none, (.store 10 (.t 2) (.t 19)), [0, 0], none⟩, ⟨none,
  (.store 4 (.t 3) (.t 20)), [1, 2, 0, 1, 2], none⟩]) .ret)
def j19_0 : SCode :=
  (.seq (some [2, 3, 4, 5]) (.seq none (.region false [⟨(some 14), (.faddr 0 (.t 5)), [], none⟩, ⟨(some 15), (.load false 1 (.t 14)), [0], none⟩, ⟨(some 16),
  (.ibin .i64 .neq (.t 15) (.k (.one (.d (.int .i64 0))))), [1], none⟩]) (.cond (.t 16) (.seq none (.region true [⟨(some 17), (.build [(.nilL 5), (.nilL 14), (.d (.int .i64 0)), (.d (.int .i64 0)),
  (.d (.str ⟨#[]⟩)), (.nilL 1), (.nilL 1), (.nilL 8), (.d (.int .i64 0)), (.d (.int .i64 0))] []), [], none⟩, ⟨(some 18), (.load true 4 (.t 5)), [], none⟩, ⟨none, (.store 10 (.t 2) (.t 17)), [0, 0],
  none⟩, ⟨none, (.store 4 (.t 3) (.t 18)), [1, 2, 0, 1, 2], none⟩]) .ret) .skip)) j19_1)
def sf19 : SFunc :=
  ⟨1, [(.cell true 10 2), (.cell true 4 3)], (.seq none (.region false [⟨(some 2), (.alloc [(.lst 5), (.lst 14), (.int .i64), (.int .i64), .str, (.lst 1), (.lst 1), (.lst 8), (.int .i64),
  (.int .i64)] [(.nilL 5), (.nilL 14), (.d (.int .i64 0)), (.d (.int .i64 0)), (.d (.str ⟨#[]⟩)), (.nilL 1), (.nilL 1), (.nilL 8), (.d (.int .i64 0)), (.d (.int .i64 0))]), [], none⟩, ⟨(some 3),
  (.alloc [(.int .i64), .str, (.int .i64), (.int .i64)] [(.d (.int .i64 0)), (.d (.str ⟨#[]⟩)), (.d (.int .i64 0)), (.d (.int .i64 0))]), [], none⟩]) (.seq none (.region false [⟨(some 4),
  (.alloc [(.lst 5), (.lst 14), (.int .i64), (.int .i64), .str, (.lst 1), (.lst 1), (.lst 8), (.int .i64), (.int .i64)] [(.nilL 5), (.nilL 14), (.d (.int .i64 0)), (.d (.int .i64 0)),
  (.d (.str ⟨#[]⟩)), (.nilL 1), (.nilL 1), (.nilL 8), (.d (.int .i64 0)), (.d (.int .i64 0))]), [], none⟩]) (.seq none (.region false [⟨(some 6), (.mov (.t 0)), [], none⟩, ⟨(some 7),
  (.mkF 44 [(.t 4)]), [], none⟩, ⟨(some 8), (.call 22 [(.t 6), (.t 7)]), [0, 1], none⟩, ⟨(some 5), (.alloc [(.int .i64), .str, (.int .i64), (.int .i64)] [(.d (.int .i64 0)), (.d (.str ⟨#[]⟩)),
  (.d (.int .i64 0)), (.d (.int .i64 0))]), [], none⟩, ⟨none, (.store 4 (.t 5) (.t 8)), [3, 2, 2, 0, 1, 2, 3], none⟩]) (.seq (some [2, 3, 4, 5]) (.seq none (.region false [⟨(some 9),
  (.faddr 0 (.t 5)), [], none⟩, ⟨(some 10), (.load false 1 (.t 9)), [0], none⟩, ⟨(some 11), (.ibin .i64 .eql (.t 10) (.k (.one (.d (.int .i64 0))))), [1],
  none⟩]) (.cond (.t 11) (.region false [⟨(some 12), (.load true 10 (.t 4)), [], none⟩, ⟨(some 13), (.call 46 [(.t 12)]), [0], none⟩, ⟨none, (.store 4 (.t 5) (.t 13)), [1, 1, 0, 1],
  none⟩]) .skip)) j19_0))))⟩
theorem c19 : compFunc Try.prog [none, none, none, some [2, 3, 4, 5], none, some [2, 3, 4, 5], none, none, none] Try.f19 = some sf19 := by kernel_rfl
/-! sortilege/lexer.Tokens -/
def j21_2 : SCode :=
  (.block 4 (.region false [⟨(some 56), (.mov (.t 7)), [], none⟩, ⟨(some 57), (.ibin .i64 .add (.t 56) (.k (.one (.d (.int .i64 1))))), [0], none⟩, ⟨(some 7), (.mov (.t 57)), [1, 0, 1], none⟩]))
def lb21_1 : SCode :=
  (.seq (some [0, 3, 4, 5, 6, 7]) (.seq none (.region false [⟨(some 46), (.mov (.t 7)), [], none⟩, ⟨(some 47), (.mov (.t 0)), [], none⟩, ⟨(some 48), (.len true (.t 47)), [1], none⟩, ⟨(some 49),
  (.ibin .i64 .lss (.t 46) (.t 48)), [0, 2], none⟩, ⟨(some 50), (.mov (.t 49)), [3], none⟩, ⟨(some 51), (.mov (.t 0)), [4], (some (4, (50, true)))⟩, ⟨(some 52), (.mov (.t 7)), [4], (some (4, (50,
  true)))⟩, ⟨(some 53), (.chr (.t 51) (.t 52)), [5, 6, 4], (some (4, (50, true)))⟩, ⟨(some 54), (.ibin .u8 .neq (.t 53) (.k (.one (.d (.int .u8 10))))), [7, 4], (some (4, (50, true)))⟩, ⟨(some 55),
  (.pick (.t 50) (.t 54) (.k (.one (.d (.bool false))))), [4, 8], none⟩]) (.cond (.t 55) .skip (.exit 3))) j21_2)
def j21_3 : SCode :=
  (.exit 1)
def j21_5 : SCode :=
  (.seq none (.region false [⟨(some 82), (.mov (.t 4)), [], none⟩, ⟨(some 83), (.load true 5 (.t 9)), [], none⟩, ⟨(some 84), (.lit 51 5 [(.t 83)]), [1], none⟩, ⟨(some 85),
  (.app 51 5 48 (.t 82) (.t 84)), [0, 2], none⟩, ⟨(some 4), (.mov (.t 85)), [3, 3, 0, 1, 2, 3], none⟩]) (.region false [⟨(some 86), (.mov (.t 7)), [], none⟩, ⟨(some 87), (.faddr 1 (.t 9)), [], none⟩,
  ⟨(some 88), (.load false 1 (.t 87)), [1], none⟩, ⟨(some 89), (.len true (.t 88)), [2], none⟩, ⟨(some 90), (.ibin .i64 .add (.t 86) (.t 89)), [0, 3], none⟩, ⟨(some 7), (.mov (.t 90)), [4, 0, 1, 2, 3,
  4], none⟩]))
def j21_4 : SCode :=
  (.seq none (.region false [⟨(some 59), (.mov (.t 0)), [], none⟩, ⟨(some 60), (.mov (.t 7)), [], none⟩, ⟨(some 61), (.sub (.t 59) (some (.t 60)) none), [0, 1], none⟩, ⟨(some 62), (.call 47 [(.t 61)]),
  [2], none⟩, ⟨(some 58), (.mov (.t 62)), [3], none⟩, ⟨(some 63), (.ext (.t 58) 0), [4], none⟩, ⟨(some 64), (.ext (.t 58) 1), [4], none⟩, ⟨(some 9), (.alloc [(.int .i64), .str, (.int .i64),
  (.int .i64), (.int .i64)] [(.d (.int .i64 0)), (.d (.str ⟨#[]⟩)), (.d (.int .i64 0)), (.d (.int .i64 0)), (.d (.int .i64 0))]), [], none⟩, ⟨none, (.store 5 (.t 9) (.t 63)), [7, 5, 3, 0, 1, 2, 3, 4,
  5, 7], none⟩, ⟨(some 10), (.mov (.t 64)), [6, 8, 0, 1, 2, 3, 4, 5, 6, 7, 8], none⟩]) (.seq none (.region false [⟨(some 65), (.mov (.t 5)), [], none⟩, ⟨(some 66), (.mov (.t 7)), [], none⟩,
  ⟨(some 67), (.mov (.t 6)), [], none⟩, ⟨(some 68), (.ibin .i64 .sub (.t 66) (.t 67)), [1, 2], none⟩, ⟨(some 69), (.ibin .i64 .add (.t 68) (.k (.one (.d (.int .i64 1))))), [3], none⟩, ⟨(some 70),
  (.faddr 3 (.t 9)), [0], none⟩, ⟨none, (.store 1 (.t 70) (.t 65)), [5, 0, 0], none⟩, ⟨(some 71), (.faddr 4 (.t 9)), [0, 1, 2, 3, 4, 5, 6], none⟩, ⟨none, (.store 1 (.t 71) (.t 69)), [7, 4, 6, 0, 1, 2,
  3, 4, 5, 6], none⟩]) (.seq (some [0, 3, 4, 5, 6, 7, 9]) (.seq none (.region false [⟨(some 72), (.mov (.t 10)), [], none⟩, ⟨(some 73), (.ibin .i64 .neq (.t 72) (.k (.one (.d (.int .i64 0))))), [0],
  none⟩]) (.cond (.t 73) (.seq none (.region true [⟨(some 74), (.mov (.t 10)), [], none⟩, ⟨(some 75), (.faddr 1 (.t 9)), [], none⟩, ⟨(some 76), (.load false 1 (.t 75)), [1], none⟩, ⟨(some 77),
  (.faddr 3 (.t 9)), [], none⟩, ⟨(some 78), (.load false 1 (.t 77)), [3], none⟩, ⟨(some 79), (.faddr 4 (.t 9)), [], none⟩, ⟨(some 80), (.load false 1 (.t 79)), [5], none⟩, ⟨(some 81),
  (.build [(.d (.int .i64 0)), (.d (.str ⟨#[]⟩)), (.d (.int .i64 0)), (.d (.int .i64 0))] [(0, (1, (.t 74))), (1, (1, (.t 76))), (2, (1, (.t 78))), (3, (1, (.t 80)))]), [0, 2, 4, 6], none⟩, ⟨(some 2),
  (.mov (.k (.one (.nilL 5)))), [], none⟩, ⟨none, (.store 4 (.t 3) (.t 81)), [7, 8, 0, 1, 2, 3, 4, 5, 6, 7, 8], none⟩]) .ret) .skip)) j21_5)))
def j21_1 : SCode :=
  (.block 1 (.seq (some [0, 3, 4, 5, 6, 7]) (.seq none (.region false [⟨(some 19), (.mov (.t 0)), [], none⟩, ⟨(some 20), (.mov (.t 7)), [], none⟩, ⟨(some 21), (.chr (.t 19) (.t 20)), [0, 1], none⟩,
  ⟨(some 8), (.mov (.t 21)), [2, 0, 1, 2], none⟩]) (.block 2 (.seq none (.region false [⟨(some 23), (.mov (.t 8)), [], none⟩, ⟨(some 24), (.ibin .u8 .eql (.t 23) (.k (.one (.d (.int .u8 10))))), [0],
  none⟩, ⟨(some 22), (.mov (.t 24)), [1], none⟩]) (.cond (.t 22) (.seq none (.region false [⟨(some 25), (.mov (.t 7)), [], none⟩, ⟨(some 26), (.ibin .i64 .add (.t 25) (.k (.one (.d (.int .i64 1))))),
  [0], none⟩, ⟨(some 7), (.mov (.t 26)), [1, 0, 1], none⟩]) (.seq none (.region false [⟨(some 27), (.mov (.t 5)), [], none⟩, ⟨(some 28), (.ibin .i64 .add (.t 27) (.k (.one (.d (.int .i64 1))))), [0],
  none⟩, ⟨(some 29), (.mov (.t 7)), [], none⟩, ⟨(some 5), (.mov (.t 28)), [1, 0, 1], none⟩, ⟨(some 6), (.mov (.t 29)), [2, 3, 0, 1, 2, 3], none⟩]) (.exit 1))) (.seq none (.region false [⟨(some 31),
  (.mov (.t 8)), [], none⟩, ⟨(some 32), (.ibin .u8 .eql (.t 31) (.k (.one (.d (.int .u8 32))))), [0], none⟩, ⟨(some 33), (.mov (.t 32)), [1], none⟩, ⟨(some 34), (.mov (.t 8)), [2], (some (2, (33,
  false)))⟩, ⟨(some 35), (.ibin .u8 .eql (.t 34) (.k (.one (.d (.int .u8 9))))), [3, 2], (some (2, (33, false)))⟩, ⟨(some 36), (.pick (.t 33) (.k (.one (.d (.bool true)))) (.t 35)), [2, 4], none⟩,
  ⟨(some 37), (.mov (.t 36)), [5, 2], none⟩, ⟨(some 38), (.mov (.t 8)), [6], (some (6, (37, false)))⟩, ⟨(some 39), (.ibin .u8 .eql (.t 38) (.k (.one (.d (.int .u8 13))))), [7, 6], (some (6, (37,
  false)))⟩, ⟨(some 40), (.pick (.t 37) (.k (.one (.d (.bool true)))) (.t 39)), [6, 8], none⟩, ⟨(some 30), (.mov (.t 40)), [9, 6], none⟩]) (.cond (.t 30) (.seq none (.region false [⟨(some 41),
  (.mov (.t 7)), [], none⟩, ⟨(some 42), (.ibin .i64 .add (.t 41) (.k (.one (.d (.int .i64 1))))), [0], none⟩, ⟨(some 7), (.mov (.t 42)), [1, 0, 1],
  none⟩]) (.exit 1)) (.seq none (.region false [⟨(some 44), (.mov (.t 8)), [], none⟩, ⟨(some 45), (.ibin .u8 .eql (.t 44) (.k (.one (.d (.int .u8 35))))), [0], none⟩, ⟨(some 43), (.mov (.t 45)), [1],
  none⟩]) (.cond (.t 43) (.seq (some [0, 3, 4, 5, 6, 7]) (.block 3 (.loop [0, 3, 4, 5, 6, 7] lb21_1)) j21_3) .skip)))))))) j21_4))
def lb21_0 : SCode :=
  (.seq (some [0, 3, 4, 5, 6, 7]) (.seq none (.region false [⟨(some 15), (.mov (.t 7)), [], none⟩, ⟨(some 16), (.mov (.t 0)), [], none⟩, ⟨(some 17), (.len true (.t 16)), [1], none⟩, ⟨(some 18),
  (.ibin .i64 .lss (.t 15) (.t 17)), [0, 2], none⟩]) (.cond (.t 18) .skip (.exit 0))) j21_1)
def j21_6 : SCode :=
  (.seq none (.region false [⟨(some 91), (.mov (.t 4)), [], none⟩, ⟨(some 92), (.mov (.t 5)), [], none⟩, ⟨(some 93), (.mov (.t 0)), [], none⟩, ⟨(some 94), (.len true (.t 93)), [2], none⟩, ⟨(some 95),
  (.mov (.t 6)), [], none⟩, ⟨(some 96), (.ibin .i64 .sub (.t 94) (.t 95)), [3, 4], none⟩, ⟨(some 97), (.ibin .i64 .add (.t 96) (.k (.one (.d (.int .i64 1))))), [5], none⟩, ⟨(some 98),
  (.build [(.d (.int .i64 0)), (.d (.str ⟨#[]⟩)), (.d (.int .i64 0)), (.d (.int .i64 0)), (.d (.int .i64 0))] [(0, (1, (.k (.one (.d (.int .i64 5)))))), (3, (1, (.t 92))), (4, (1, (.t 97)))]), [1, 6],
  none⟩, ⟨(some 99), (.lit 51 5 [(.t 98)]), [7], none⟩, ⟨(some 100), (.app 51 5 48 (.t 91) (.t 99)), [0, 8], none⟩, ⟨(some 101), (.build [(.d (.int .i64 0)), (.d (.str ⟨#[]⟩)), (.d (.int .i64 0)),
  (.d (.int .i64 0))] []), [], none⟩, ⟨(some 2), (.mov (.t 100)), [9, 9, 0, 1, 2, 3, 4, 5, 6, 7, 8, 9], none⟩, ⟨none, (.store 4 (.t 3) (.t 101)), [10, 11, 0, 1, 2, 3, 4, 5, 6, 7, 8, 9, 10, 11],
  none⟩]) .ret)
def j21_0 : SCode :=
  (.seq none (.region false [⟨(some 4), (.mov (.k (.one (.nilL 5)))), [], none⟩]) (.seq none (.region false [⟨(some 5), (.mov (.k (.one (.d (.int .i64 1))))), [], none⟩, ⟨(some 6),
  (.mov (.k (.one (.d (.int .i64 0))))), [0, 0], none⟩]) (.seq (some [0, 3, 4, 5, 6]) (.seq none (.region false [⟨(some 7), (.mov (.k (.one (.d (.int .i64 0))))), [], none⟩]) (.block 0 (.loop [0, 3,
  4, 5, 6, 7] lb21_0))) j21_6)))
def sf21 : SFunc :=
  ⟨1, [(.tmp 2), (.cell true 4 3)], (.seq none (.region false [⟨(some 2), (.mov (.k (.one (.nilL 5)))), [], none⟩, ⟨(some 3), (.alloc [(.int .i64), .str, (.int .i64), (.int .i64)] [(.d (.int .i64 0)),
  (.d (.str ⟨#[]⟩)), (.d (.int .i64 0)), (.d (.int .i64 0))]), [], none⟩]) (.seq (some [0, 3]) (.seq none (.region false [⟨(some 11), (.mov (.t 0)), [], none⟩, ⟨(some 12), (.len true (.t 11)), [0],
  none⟩, ⟨(some 13), (.ibin .i64 .gtr (.t 12) (.k (.one (.d (.int .i64 20000))))), [1], none⟩]) (.cond (.t 13) (.seq none (.region false [⟨(some 14), (.build [(.d (.int .i64 0)), (.d (.str ⟨#[]⟩)),
  (.d (.int .i64 0)), (.d (.int .i64 0))] [(0, (1, (.k (.one (.d (.int .i64 2))))))]), [], none⟩, ⟨(some 2), (.mov (.k (.one (.nilL 5)))), [], none⟩, ⟨none, (.store 4 (.t 3) (.t 14)), [0, 1, 0, 1],
  none⟩]) .ret) .skip)) j21_0))⟩
theorem c21 : compFunc Try.prog [none, some [0, 3], none, none, none, none, some [0, 3, 4, 5, 6], none, some [0, 3, 4, 5, 6, 7], some [0, 3, 4, 5, 6, 7], none, some [0, 3, 4, 5, 6, 7], none, none, none, none, none, none, none, some [0, 3, 4, 5, 6, 7], some [0, 3, 4, 5, 6, 7], some [0, 3, 4, 5, 6, 7], none, none, none, some [0, 3, 4, 5, 6, 7, 9], none, none, none, none] Try.f21 = some sf21 := by kernel_rfl
/-! sortilege/parser.read -/
def j22_1 : SCode :=
  (.seq none (.region false [⟨(some 29), (.build [(.d (.int .i64 0)), (.d (.str ⟨#[]⟩)), (.d (.int .i64 0)), (.d (.int .i64 0))] []), [], none⟩, ⟨none, (.store 4 (.t 4) (.t 29)), [0, 0], none⟩]) .ret)
def j22_0 : SCode :=
  (.seq none (.region false [⟨(some 16), (.mkF 48 [(.t 4)]), [], none⟩, ⟨none, (.dfrv (.t 16) []), [0], none⟩]) (.seq none (.region false [⟨(some 17), (.mov (.t 5)), [], none⟩, ⟨(some 18),
  (.build [(.nilL 5), (.d (.int .i64 0))] [(0, (1, (.t 17)))]), [0], none⟩, ⟨(some 19), (.box [(.lst 5), (.int .i64)] (.t 18)), [1], none⟩, ⟨(some 6), (.mov (.t 19)), [2, 0, 1, 2],
  none⟩]) (.seq none (.region false [⟨(some 20), (.mov (.t 1)), [], none⟩, ⟨(some 21), (.mov (.t 6)), [], none⟩, ⟨(some 22), (.callv (.t 20) [(.t 21)]), [0, 1],
  none⟩]) (.seq (some [4]) (.seq none (.region false [⟨(some 23), (.mov (.t 6)), [], none⟩, ⟨(some 24), (.call 49 [(.t 23)]), [0], none⟩, ⟨(some 25), (.field false 0 1 (.t 24)), [1], none⟩,
  ⟨(some 26), (.ibin .i64 .neq (.t 25) (.k (.one (.d (.int .i64 5))))), [2], none⟩]) (.cond (.t 26) (.region false [⟨(some 27), (.mov (.t 6)), [], none⟩, ⟨(some 28), (.call 50 [(.t 27)]), [0],
  none⟩]) .skip)) j22_1))))
def sf22 : SFunc :=
  ⟨2, [(.cell true 4 4)], (.seq none (.region false [⟨(some 4), (.alloc [(.int .i64), .str, (.int .i64), (.int .i64)] [(.d (.int .i64 0)), (.d (.str ⟨#[]⟩)), (.d (.int .i64 0)), (.d (.int .i64 0))]),
  [], none⟩]) (.seq none (.region false [⟨(some 8), (.mov (.t 0)), [], none⟩, ⟨(some 9), (.call 21 [(.t 8)]), [0], none⟩, ⟨(some 7), (.mov (.t 9)), [1], none⟩, ⟨(some 10), (.ext (.t 7) 0), [2], none⟩,
  ⟨(some 11), (.ext (.t 7) 1), [2], none⟩, ⟨(some 5), (.mov (.t 10)), [3, 1, 0, 1, 2, 3], none⟩, ⟨none, (.store 4 (.t 4) (.t 11)), [4, 5, 0, 1, 2, 3, 4, 5], none⟩]) (.seq (some [1, 4,
  5]) (.seq none (.region false [⟨(some 12), (.faddr 0 (.t 4)), [], none⟩, ⟨(some 13), (.load false 1 (.t 12)), [0], none⟩, ⟨(some 14), (.ibin .i64 .neq (.t 13) (.k (.one (.d (.int .i64 0))))), [1],
  none⟩]) (.cond (.t 14) (.seq none (.region false [⟨(some 15), (.load true 4 (.t 4)), [], none⟩, ⟨none, (.store 4 (.t 4) (.t 15)), [0, 0], none⟩]) .ret) .skip)) j22_0)))⟩
theorem c22 : compFunc Try.prog [none, none, some [1, 4, 5], none, none, none, none, none, some [4], none, none] Try.f22 = some sf22 := by kernel_rfl
/-! sortilege/parser.Expr$1 -/
def sf23 : SFunc :=
  ⟨2, [], (.region false [⟨(some 3), (.mov (.t 0)), [], none⟩, ⟨(some 4), (.call 24 [(.t 3)]), [0], none⟩, ⟨none, (.store 8 (.t 1) (.t 4)), [1, 1, 0, 1], none⟩])⟩
theorem c23 : compFunc Try.prog [] Try.f23 = some sf23 := by kernel_rfl
/-! (*sortilege/parser.reader).expr -/
def j24_0 : SCode :=
  (.block 2 (.region true [⟨(some 37), (.faddr 3 (.t 4)), [], none⟩, ⟨(some 38), (.load false 1 (.t 37)), [0], none⟩, ⟨(some 39), (.mov (.t 0)), [], none⟩, ⟨(some 40), (.call 53 [(.t 39),
  (.k (.one (.d (.int .i64 1))))]), [2], none⟩, ⟨(some 41), (.field false 1 1 (.t 40)), [3], none⟩, ⟨(some 42), (.lit 9 1 [(.t 41)]), [4], none⟩, ⟨(some 43), (.app 9 1 16 (.t 38) (.t 42)), [1, 5, 3],
  none⟩, ⟨(some 44), (.faddr 3 (.t 4)), [0, 1, 2, 3, 4, 5, 6], none⟩, ⟨none, (.store 1 (.t 44) (.t 43)), [7, 6, 6, 0, 1, 2, 3, 4, 5, 6], none⟩]))
def lb24_0 : SCode :=
  (.seq (some [0, 2, 4]) (.seq none (.region false [⟨(some 35), (.mov (.t 0)), [], none⟩, ⟨(some 36), (.call 51 [(.t 35), (.k (.one (.d (.str ⟨#[44]⟩))))]), [0],
  none⟩]) (.cond (.t 36) .skip (.exit 1))) j24_0)
def j24_1 : SCode :=
  (.region false [⟨(some 45), (.mov (.t 0)), [], none⟩, ⟨(some 46), (.call 54 [(.t 45), (.k (.one (.d (.str ⟨#[41]⟩))))]), [0], none⟩])
def j24_2 : SCode :=
  (.seq none (.region false [⟨(some 52), (.mov (.t 0)), [], none⟩, ⟨(some 53), (.call 54 [(.t 52), (.k (.one (.d (.str ⟨#[61]⟩))))]), [0], none⟩]) (.seq none (.region true [⟨(some 54),
  (.faddr 5 (.t 4)), [], none⟩, ⟨(some 55), (.load false 1 (.t 54)), [0], none⟩, ⟨(some 56), (.mov (.t 0)), [], none⟩, ⟨(some 57), (.call 24 [(.t 56)]), [2], none⟩, ⟨(some 58), (.lit 27 8 [(.t 57)]),
  [3], none⟩, ⟨(some 59), (.app 27 8 120 (.t 55) (.t 58)), [1, 4, 3], none⟩, ⟨(some 60), (.faddr 5 (.t 4)), [0, 1, 2, 3, 4, 5], none⟩, ⟨none, (.store 1 (.t 60) (.t 59)), [6, 5, 5, 0, 1, 2, 3, 4, 5],
  none⟩]) (.seq none (.region false [⟨(some 61), (.mov (.t 0)), [], none⟩, ⟨(some 62), (.call 54 [(.t 61), (.k (.one (.d (.str ⟨#[105, 110]⟩))))]), [0], none⟩]) (.seq none (.region true [⟨(some 63),
  (.faddr 5 (.t 4)), [], none⟩, ⟨(some 64), (.load false 1 (.t 63)), [0], none⟩, ⟨(some 65), (.mov (.t 0)), [], none⟩, ⟨(some 66), (.call 24 [(.t 65)]), [2], none⟩, ⟨(some 67), (.lit 27 8 [(.t 66)]),
  [3], none⟩, ⟨(some 68), (.app 27 8 120 (.t 64) (.t 67)), [1, 4, 3], none⟩, ⟨(some 69), (.faddr 5 (.t 4)), [0, 1, 2, 3, 4, 5], none⟩, ⟨none, (.store 1 (.t 69) (.t 68)), [6, 5, 5, 0, 1, 2, 3, 4, 5],
  none⟩]) (.seq none (.region false [⟨(some 70), (.load true 8 (.t 4)), [], none⟩, ⟨none, (.store 8 (.t 2) (.t 70)), [0, 0], none⟩]) .ret)))))
def j24_4 : SCode :=
  (.region false [⟨(some 123), (.ibin .i64 .add (.t 116) (.k (.one (.d (.int .i64 1))))), [], none⟩, ⟨(some 116), (.mov (.t 123)), [0], none⟩])
def j24_3 : SCode :=
  (.seq (some [0, 2, 6, 114, 115, 116]) (.block 4 (.seq none (.region false [⟨(some 118), (.iaddr 1 (.t 114) (.t 116)), [], none⟩, ⟨(some 119), (.load false 1 (.t 118)), [0], none⟩, ⟨(some 8),
  (.mov (.t 119)), [1, 0, 1], none⟩]) (.region false [⟨(some 120), (.mov (.t 0)), [], none⟩, ⟨(some 121), (.mov (.t 8)), [], none⟩, ⟨(some 122), (.call 54 [(.t 120), (.t 121)]), [0, 1],
  none⟩]))) j24_4)
def lb24_1 : SCode :=
  (.seq none (.region false [⟨(some 117), (.ibin .i64 .lss (.t 116) (.t 115)), [], none⟩]) (.seq (some [0, 2, 6, 114, 115, 116]) (.cond (.t 117) .skip (.exit 3)) j24_3))
def j24_5 : SCode :=
  (.seq none (.region true [⟨(some 124), (.faddr 5 (.t 6)), [], none⟩, ⟨(some 125), (.load false 1 (.t 124)), [0], none⟩, ⟨(some 126), (.mov (.t 0)), [], none⟩, ⟨(some 127), (.call 24 [(.t 126)]), [2],
  none⟩, ⟨(some 128), (.lit 27 8 [(.t 127)]), [3], none⟩, ⟨(some 129), (.app 27 8 120 (.t 125) (.t 128)), [1, 4, 3], none⟩, ⟨(some 130), (.faddr 5 (.t 6)), [0, 1, 2, 3, 4, 5], none⟩, ⟨none,
  (.store 1 (.t 130) (.t 129)), [6, 5, 5, 0, 1, 2, 3, 4, 5], none⟩]) (.seq none (.region false [⟨(some 131), (.mov (.t 0)), [], none⟩, ⟨(some 132), (.call 54 [(.t 131),
  (.k (.one (.d (.str ⟨#[124]⟩))))]), [0], none⟩]) (.seq none (.region false [⟨(some 133), (.mov (.t 0)), [], none⟩, ⟨(some 134), (.call 53 [(.t 133), (.k (.one (.d (.int .i64 1))))]), [0], none⟩,
  ⟨(some 135), (.field false 1 1 (.t 134)), [1], none⟩, ⟨(some 136), (.lit 9 1 [(.t 135)]), [2], none⟩, ⟨(some 137), (.faddr 3 (.t 6)), [0, 1, 2, 3], none⟩, ⟨none, (.store 1 (.t 137) (.t 136)), [4, 3,
  1, 0, 1, 2, 3], none⟩]) (.seq none (.region false [⟨(some 138), (.mov (.t 0)), [], none⟩, ⟨(some 139), (.call 54 [(.t 138), (.k (.one (.d (.str ⟨#[58, 58]⟩))))]), [0],
  none⟩]) (.seq none (.region true [⟨(some 140), (.faddr 3 (.t 6)), [], none⟩, ⟨(some 141), (.load false 1 (.t 140)), [0], none⟩, ⟨(some 142), (.mov (.t 0)), [], none⟩, ⟨(some 143),
  (.call 53 [(.t 142), (.k (.one (.d (.int .i64 1))))]), [2], none⟩, ⟨(some 144), (.field false 1 1 (.t 143)), [3], none⟩, ⟨(some 145), (.lit 9 1 [(.t 144)]), [4], none⟩, ⟨(some 146),
  (.app 9 1 16 (.t 141) (.t 145)), [1, 5, 3], none⟩, ⟨(some 147), (.faddr 3 (.t 6)), [0, 1, 2, 3, 4, 5, 6], none⟩, ⟨none, (.store 1 (.t 147) (.t 146)), [7, 6, 6, 0, 1, 2, 3, 4, 5, 6],
  none⟩]) (.seq none (.region false [⟨(some 148), (.mov (.t 0)), [], none⟩, ⟨(some 149), (.call 54 [(.t 148), (.k (.one (.d (.str ⟨#[61, 62]⟩))))]), [0], none⟩]) (.seq none (.region true [⟨(some 150),
  (.faddr 5 (.t 6)), [], none⟩, ⟨(some 151), (.load false 1 (.t 150)), [0], none⟩, ⟨(some 152), (.mov (.t 0)), [], none⟩, ⟨(some 153), (.call 24 [(.t 152)]), [2], none⟩, ⟨(some 154),
  (.lit 27 8 [(.t 153)]), [3], none⟩, ⟨(some 155), (.app 27 8 120 (.t 151) (.t 154)), [1, 4, 3], none⟩, ⟨(some 156), (.faddr 5 (.t 6)), [0, 1, 2, 3, 4, 5], none⟩, ⟨none, (.store 1 (.t 156) (.t 155)),
  [6, 5, 5, 0, 1, 2, 3, 4, 5], none⟩]) (.seq none (.region false [⟨(some 157), (.load true 8 (.t 6)), [], none⟩, ⟨none, (.store 8 (.t 2) (.t 157)), [0, 0], none⟩]) .ret))))))))
def j24_6 : SCode :=
  (.seq none (.region false [⟨(some 198), (.mov (.t 0)), [], none⟩, ⟨(some 199), (.call 56 [(.t 198), (.k (.one (.d (.int .i64 0))))]), [0], none⟩, ⟨none, (.store 8 (.t 2) (.t 199)), [1, 1, 0, 1],
  none⟩]) .ret)
def sf24 : SFunc :=
  ⟨1, [(.cell true 8 2)], (.seq none (.region false [⟨(some 2), (.alloc [(.int .i64), (.int .i64), .str, (.lst 1), (.lst 1), (.lst 8), (.int .i64), (.int .i64)] [(.d (.int .i64 0)), (.d (.int .i64 0)),
  (.d (.str ⟨#[]⟩)), (.nilL 1), (.nilL 1), (.nilL 8), (.d (.int .i64 0)), (.d (.int .i64 0))]), [], none⟩]) (.seq none (.region false [⟨(some 11), (.mov (.t 0)), [], none⟩, ⟨(some 12),
  (.call 49 [(.t 11)]), [0], none⟩, ⟨(some 3), (.alloc [(.int .i64), .str, (.int .i64), (.int .i64), (.int .i64)] [(.d (.int .i64 0)), (.d (.str ⟨#[]⟩)), (.d (.int .i64 0)), (.d (.int .i64 0)),
  (.d (.int .i64 0))]), [], none⟩, ⟨none, (.store 5 (.t 3) (.t 12)), [2, 1, 1, 0, 1, 2], none⟩]) (.seq (some [0, 2]) (.block 0 (.seq none (.region false [⟨(some 14), (.mov (.t 0)), [], none⟩,
  ⟨(some 15), (.call 51 [(.t 14), (.k (.one (.d (.str ⟨#[108, 101, 116]⟩))))]), [0], none⟩, ⟨(some 13), (.mov (.t 15)), [1, 1], none⟩]) (.cond (.t 13) (.seq none (.region false [⟨(some 16),
  (.load true 5 (.t 3)), [], none⟩, ⟨(some 17), (.call 52 [(.k (.one (.d (.int .i64 8)))), (.t 16)]), [0], none⟩, ⟨(some 4), (.alloc [(.int .i64), (.int .i64), .str, (.lst 1), (.lst 1), (.lst 8),
  (.int .i64), (.int .i64)] [(.d (.int .i64 0)), (.d (.int .i64 0)), (.d (.str ⟨#[]⟩)), (.nilL 1), (.nilL 1), (.nilL 8), (.d (.int .i64 0)), (.d (.int .i64 0))]), [], none⟩, ⟨none,
  (.store 8 (.t 4) (.t 17)), [2, 1, 1, 0, 1, 2], none⟩]) (.seq (some [0, 2, 4]) (.seq none (.region false [⟨(some 18), (.mov (.t 0)), [], none⟩, ⟨(some 19), (.call 51 [(.t 18),
  (.k (.one (.d (.str ⟨#[40]⟩))))]), [0], none⟩]) (.cond (.t 19) (.seq none (.region false [⟨(some 20), (.mov (.t 0)), [], none⟩, ⟨(some 21), (.call 53 [(.t 20), (.k (.one (.d (.int .i64 1))))]), [0],
  none⟩, ⟨(some 22), (.field false 1 1 (.t 21)), [1], none⟩, ⟨(some 23), (.lit 9 1 [(.t 22)]), [2], none⟩, ⟨(some 24), (.faddr 3 (.t 4)), [0, 1, 2, 3], none⟩, ⟨none, (.store 1 (.t 24) (.t 23)), [4, 3,
  1, 0, 1, 2, 3], none⟩]) (.seq none (.region false [⟨(some 25), (.mov (.t 0)), [], none⟩, ⟨(some 26), (.call 54 [(.t 25), (.k (.one (.d (.str ⟨#[44]⟩))))]), [0],
  none⟩]) (.seq none (.region true [⟨(some 27), (.faddr 3 (.t 4)), [], none⟩, ⟨(some 28), (.load false 1 (.t 27)), [0], none⟩, ⟨(some 29), (.mov (.t 0)), [], none⟩, ⟨(some 30), (.call 53 [(.t 29),
  (.k (.one (.d (.int .i64 1))))]), [2], none⟩, ⟨(some 31), (.field false 1 1 (.t 30)), [3], none⟩, ⟨(some 32), (.lit 9 1 [(.t 31)]), [4], none⟩, ⟨(some 33), (.app 9 1 16 (.t 28) (.t 32)), [1, 5, 3],
  none⟩, ⟨(some 34), (.faddr 3 (.t 4)), [0, 1, 2, 3, 4, 5, 6], none⟩, ⟨none, (.store 1 (.t 34) (.t 33)), [7, 6, 6, 0, 1, 2, 3, 4, 5, 6], none⟩]) (.seq (some [0, 2, 4]) (.block 1 (.loop [0, 2,
  4] lb24_0)) j24_1)))) (.region false [⟨(some 47), (.mov (.t 0)), [], none⟩, ⟨(some 48), (.call 53 [(.t 47), (.k (.one (.d (.int .i64 1))))]), [0], none⟩, ⟨(some 49), (.field false 1 1 (.t 48)), [1],
  none⟩, ⟨(some 50), (.lit 9 1 [(.t 49)]), [2], none⟩, ⟨(some 51), (.faddr 3 (.t 4)), [0, 1, 2, 3], none⟩, ⟨none, (.store 1 (.t 51) (.t 50)), [4, 3, 1, 0, 1, 2, 3],
  none⟩]))) j24_2)) (.seq none (.region false [⟨(some 72), (.mov (.t 0)), [], none⟩, ⟨(some 73), (.call 51 [(.t 72), (.k (.one (.d (.str ⟨#[105, 102]⟩))))]), [0], none⟩, ⟨(some 71), (.mov (.t 73)),
  [1, 1], none⟩]) (.cond (.t 71) (.seq none (.region false [⟨(some 74), (.load true 5 (.t 3)), [], none⟩, ⟨(some 75), (.call 52 [(.k (.one (.d (.int .i64 9)))), (.t 74)]), [0], none⟩, ⟨(some 5),
  (.alloc [(.int .i64), (.int .i64), .str, (.lst 1), (.lst 1), (.lst 8), (.int .i64), (.int .i64)] [(.d (.int .i64 0)), (.d (.int .i64 0)), (.d (.str ⟨#[]⟩)), (.nilL 1), (.nilL 1), (.nilL 8),
  (.d (.int .i64 0)), (.d (.int .i64 0))]), [], none⟩, ⟨none, (.store 8 (.t 5) (.t 75)), [2, 1, 1, 0, 1, 2], none⟩]) (.seq none (.region true [⟨(some 76), (.faddr 5 (.t 5)), [], none⟩, ⟨(some 77),
  (.load false 1 (.t 76)), [0], none⟩, ⟨(some 78), (.mov (.t 0)), [], none⟩, ⟨(some 79), (.call 24 [(.t 78)]), [2], none⟩, ⟨(some 80), (.lit 27 8 [(.t 79)]), [3], none⟩, ⟨(some 81),
  (.app 27 8 120 (.t 77) (.t 80)), [1, 4, 3], none⟩, ⟨(some 82), (.faddr 5 (.t 5)), [0, 1, 2, 3, 4, 5], none⟩, ⟨none, (.store 1 (.t 82) (.t 81)), [6, 5, 5, 0, 1, 2, 3, 4, 5],
  none⟩]) (.seq none (.region false [⟨(some 83), (.mov (.t 0)), [], none⟩, ⟨(some 84), (.call 54 [(.t 83), (.k (.one (.d (.str ⟨#[116, 104, 101, 110]⟩))))]), [0],
  none⟩]) (.seq none (.region true [⟨(some 85), (.faddr 5 (.t 5)), [], none⟩, ⟨(some 86), (.load false 1 (.t 85)), [0], none⟩, ⟨(some 87), (.mov (.t 0)), [], none⟩, ⟨(some 88), (.call 24 [(.t 87)]),
  [2], none⟩, ⟨(some 89), (.lit 27 8 [(.t 88)]), [3], none⟩, ⟨(some 90), (.app 27 8 120 (.t 86) (.t 89)), [1, 4, 3], none⟩, ⟨(some 91), (.faddr 5 (.t 5)), [0, 1, 2, 3, 4, 5], none⟩, ⟨none,
  (.store 1 (.t 91) (.t 90)), [6, 5, 5, 0, 1, 2, 3, 4, 5], none⟩]) (.seq none (.region false [⟨(some 92), (.mov (.t 0)), [], none⟩, ⟨(some 93), (.call 54 [(.t 92), (.k (.one (.d (.str ⟨#[101, 108,
  115, 101]⟩))))]), [0], none⟩]) (.seq none (.region true [⟨(some 94), (.faddr 5 (.t 5)), [], none⟩, ⟨(some 95), (.load false 1 (.t 94)), [0], none⟩, ⟨(some 96), (.mov (.t 0)), [], none⟩, ⟨(some 97),
  (.call 24 [(.t 96)]), [2], none⟩, ⟨(some 98), (.lit 27 8 [(.t 97)]), [3], none⟩, ⟨(some 99), (.app 27 8 120 (.t 95) (.t 98)), [1, 4, 3], none⟩, ⟨(some 100), (.faddr 5 (.t 5)), [0, 1, 2, 3, 4, 5],
  none⟩, ⟨none, (.store 1 (.t 100) (.t 99)), [6, 5, 5, 0, 1, 2, 3, 4, 5], none⟩]) (.seq none (.region false [⟨(some 101), (.load true 8 (.t 5)), [], none⟩, ⟨none, (.store 8 (.t 2) (.t 101)), [0, 0],
  none⟩]) .ret))))))) (.seq none (.region false [⟨(some 103), (.mov (.t 0)), [], none⟩, ⟨(some 104), (.call 51 [(.t 103), (.k (.one (.d (.str ⟨#[99, 97, 115, 101]⟩))))]), [0], none⟩, ⟨(some 102),
  (.mov (.t 104)), [1, 1], none⟩]) (.cond (.t 102) (.seq none (.region false [⟨(some 105), (.load true 5 (.t 3)), [], none⟩, ⟨(some 106), (.call 52 [(.k (.one (.d (.int .i64 10)))), (.t 105)]), [0],
  none⟩, ⟨(some 6), (.alloc [(.int .i64), (.int .i64), .str, (.lst 1), (.lst 1), (.lst 8), (.int .i64), (.int .i64)] [(.d (.int .i64 0)), (.d (.int .i64 0)), (.d (.str ⟨#[]⟩)), (.nilL 1), (.nilL 1),
  (.nilL 8), (.d (.int .i64 0)), (.d (.int .i64 0))]), [], none⟩, ⟨none, (.store 8 (.t 6) (.t 106)), [2, 1, 1, 0, 1, 2], none⟩]) (.seq none (.region true [⟨(some 107), (.faddr 5 (.t 6)), [], none⟩,
  ⟨(some 108), (.load false 1 (.t 107)), [0], none⟩, ⟨(some 109), (.mov (.t 0)), [], none⟩, ⟨(some 110), (.call 24 [(.t 109)]), [2], none⟩, ⟨(some 111), (.lit 27 8 [(.t 110)]), [3], none⟩,
  ⟨(some 112), (.app 27 8 120 (.t 108) (.t 111)), [1, 4, 3], none⟩, ⟨(some 113), (.faddr 5 (.t 6)), [0, 1, 2, 3, 4, 5], none⟩, ⟨none, (.store 1 (.t 113) (.t 112)), [6, 5, 5, 0, 1, 2, 3, 4, 5],
  none⟩]) (.seq (some [0, 2, 6]) (.seq none (.region false [⟨(some 114), (.lit 9 1 [(.k (.one (.d (.str ⟨#[111, 102]⟩)))), (.k (.one (.d (.str ⟨#[91]⟩)))), (.k (.one (.d (.str ⟨#[93]⟩)))),
  (.k (.one (.d (.str ⟨#[61, 62]⟩))))]), [], none⟩, ⟨(some 115), (.len false (.t 114)), [0], none⟩, ⟨(some 116), (.mov (.k (.one (.d (.int .i64 0))))), [], none⟩]) (.block 3 (.loop [0, 2, 6, 114, 115,
  116] lb24_1))) j24_5))) (.seq none (.region false [⟨(some 159), (.mov (.t 0)), [], none⟩, ⟨(some 160), (.call 51 [(.t 159), (.k (.one (.d (.str ⟨#[111, 98, 115, 101, 114, 118, 101]⟩))))]), [0],
  none⟩, ⟨(some 158), (.mov (.t 160)), [1, 1], none⟩]) (.cond (.t 158) (.seq none (.region false [⟨(some 161), (.load true 5 (.t 3)), [], none⟩, ⟨(some 162),
  (.call 52 [(.k (.one (.d (.int .i64 11)))), (.t 161)]), [0], none⟩, ⟨(some 9), (.alloc [(.int .i64), (.int .i64), .str, (.lst 1), (.lst 1), (.lst 8), (.int .i64), (.int .i64)] [(.d (.int .i64 0)),
  (.d (.int .i64 0)), (.d (.str ⟨#[]⟩)), (.nilL 1), (.nilL 1), (.nilL 8), (.d (.int .i64 0)), (.d (.int .i64 0))]), [], none⟩, ⟨none, (.store 8 (.t 9) (.t 162)), [2, 1, 1, 0, 1, 2],
  none⟩]) (.seq none (.region true [⟨(some 163), (.faddr 5 (.t 9)), [], none⟩, ⟨(some 164), (.load false 1 (.t 163)), [0], none⟩, ⟨(some 165), (.mov (.t 0)), [], none⟩, ⟨(some 166),
  (.call 24 [(.t 165)]), [2], none⟩, ⟨(some 167), (.lit 27 8 [(.t 166)]), [3], none⟩, ⟨(some 168), (.app 27 8 120 (.t 164) (.t 167)), [1, 4, 3], none⟩, ⟨(some 169), (.faddr 5 (.t 9)), [0, 1, 2, 3, 4,
  5], none⟩, ⟨none, (.store 1 (.t 169) (.t 168)), [6, 5, 5, 0, 1, 2, 3, 4, 5], none⟩]) (.seq none (.region false [⟨(some 170), (.mov (.t 0)), [], none⟩, ⟨(some 171), (.call 54 [(.t 170),
  (.k (.one (.d (.str ⟨#[105, 110]⟩))))]), [0], none⟩]) (.seq none (.region true [⟨(some 172), (.faddr 5 (.t 9)), [], none⟩, ⟨(some 173), (.load false 1 (.t 172)), [0], none⟩, ⟨(some 174),
  (.mov (.t 0)), [], none⟩, ⟨(some 175), (.call 24 [(.t 174)]), [2], none⟩, ⟨(some 176), (.lit 27 8 [(.t 175)]), [3], none⟩, ⟨(some 177), (.app 27 8 120 (.t 173) (.t 176)), [1, 4, 3], none⟩,
  ⟨(some 178), (.faddr 5 (.t 9)), [0, 1, 2, 3, 4, 5], none⟩, ⟨none, (.store 1 (.t 178) (.t 177)), [6, 5, 5, 0, 1, 2, 3, 4, 5], none⟩]) (.seq none (.region false [⟨(some 179), (.load true 8 (.t 9)),
  [], none⟩, ⟨none, (.store 8 (.t 2) (.t 179)), [0, 0], none⟩]) .ret))))) (.seq none (.region false [⟨(some 181), (.mov (.t 0)), [], none⟩, ⟨(some 182), (.call 51 [(.t 181),
  (.k (.one (.d (.str ⟨#[115, 99, 111, 114, 101]⟩))))]), [0], none⟩, ⟨(some 180), (.mov (.t 182)), [1, 1], none⟩]) (.cond (.t 180) (.seq none (.region false [⟨(some 183), (.load true 5 (.t 3)), [],
  none⟩, ⟨(some 184), (.call 52 [(.k (.one (.d (.int .i64 12)))), (.t 183)]), [0], none⟩, ⟨(some 10), (.alloc [(.int .i64), (.int .i64), .str, (.lst 1), (.lst 1), (.lst 8), (.int .i64),
  (.int .i64)] [(.d (.int .i64 0)), (.d (.int .i64 0)), (.d (.str ⟨#[]⟩)), (.nilL 1), (.nilL 1), (.nilL 8), (.d (.int .i64 0)), (.d (.int .i64 0))]), [], none⟩, ⟨none, (.store 8 (.t 10) (.t 184)), [2,
  1, 1, 0, 1, 2], none⟩]) (.seq none (.region false [⟨(some 185), (.mov (.t 0)), [], none⟩, ⟨(some 186), (.call 55 [(.t 185)]), [0], none⟩, ⟨(some 187), (.faddr 4 (.t 10)), [0, 1], none⟩, ⟨none,
  (.store 1 (.t 187) (.t 186)), [2, 1, 1, 0, 1], none⟩]) (.seq none (.region false [⟨(some 188), (.mov (.t 0)), [], none⟩, ⟨(some 189), (.call 54 [(.t 188), (.k (.one (.d (.str ⟨#[105, 110]⟩))))]),
  [0], none⟩]) (.seq none (.region true [⟨(some 190), (.faddr 5 (.t 10)), [], none⟩, ⟨(some 191), (.load false 1 (.t 190)), [0], none⟩, ⟨(some 192), (.mov (.t 0)), [], none⟩, ⟨(some 193),
  (.call 24 [(.t 192)]), [2], none⟩, ⟨(some 194), (.lit 27 8 [(.t 193)]), [3], none⟩, ⟨(some 195), (.app 27 8 120 (.t 191) (.t 194)), [1, 4, 3], none⟩, ⟨(some 196), (.faddr 5 (.t 10)), [0, 1, 2, 3, 4,
  5], none⟩, ⟨none, (.store 1 (.t 196) (.t 195)), [6, 5, 5, 0, 1, 2, 3, 4, 5], none⟩]) (.seq none (.region false [⟨(some 197), (.load true 8 (.t 10)), [], none⟩, ⟨none, (.store 8 (.t 2) (.t 197)), [0,
  0], none⟩]) .ret))))) .skip))))))))))) j24_6)))⟩
theorem c24 : compFunc Try.prog [none, none, some [0, 2], none, none, some [0, 2, 4], none, none, none, none, some [0, 2, 4], some [0, 2, 4], some [0, 2, 4], none, none, none, none, none, none, none, none, none, none, none, none, none, none, none, none, none, some [0, 2, 6], none, some [0, 2, 6, 114, 115, 116], none, some [0, 2, 6, 114, 115, 116], some [0, 2, 6, 114, 115, 116], none, none, none, none, none, none, none, none, none, none, none, none, none, none, none, none, none, none, none, none, none, none] Try.f24 = some sf24 := by kernel_rfl
/-! sortilege/parser.limit -/
def j25_0 : SCode :=
  (.seq none (.region false [⟨(some 16), (.build [(.d (.int .i64 0)), (.d (.str ⟨#[]⟩)), (.d (.int .i64 0)), (.d (.int .i64 0))] []), [], none⟩, ⟨none, (.store 4 (.t 2) (.t 16)), [0, 0], none⟩]) .ret)
def sf25 : SFunc :=
  ⟨1, [(.cell true 4 2)], (.seq none (.region false [⟨(some 1), (.box [(.int .i64), (.int .i64), .str, (.lst 1), (.lst 1), (.lst 8), (.int .i64), (.int .i64)] (.t 0)), [], none⟩, ⟨(some 2),
  (.alloc [(.int .i64), .str, (.int .i64), (.int .i64)] [(.d (.int .i64 0)), (.d (.str ⟨#[]⟩)), (.d (.int .i64 0)), (.d (.int .i64 0))]), [],
  none⟩]) (.seq (some [2]) (.seq none (.region false [⟨(some 6), (.load true 8 (.t 1)), [], none⟩, ⟨(some 7), (.call 57 [(.t 6), (.k (.one (.d (.int .i64 40))))]), [0], none⟩, ⟨(some 5),
  (.mov (.t 7)), [1], none⟩, ⟨(some 8), (.ext (.t 5) 0), [2], none⟩, ⟨(some 9), (.ext (.t 5) 1), [2], none⟩, ⟨(some 3), (.alloc [(.int .i64), (.int .i64), .str, (.lst 1), (.lst 1), (.lst 8),
  (.int .i64), (.int .i64)] [(.d (.int .i64 0)), (.d (.int .i64 0)), (.d (.str ⟨#[]⟩)), (.nilL 1), (.nilL 1), (.nilL 8), (.d (.int .i64 0)), (.d (.int .i64 0))]), [], none⟩, ⟨none,
  (.store 8 (.t 3) (.t 8)), [5, 3, 1, 0, 1, 2, 3, 5], none⟩, ⟨(some 4), (.mov (.t 9)), [4, 6, 0, 1, 2, 3, 4, 5, 6], none⟩]) (.seq none (.region false [⟨(some 10), (.mov (.t 4)), [],
  none⟩]) (.cond (.t 10) (.seq none (.region false [⟨(some 11), (.faddr 6 (.t 3)), [], none⟩, ⟨(some 12), (.load false 1 (.t 11)), [0], none⟩, ⟨(some 13), (.faddr 7 (.t 3)), [], none⟩, ⟨(some 14),
  (.load false 1 (.t 13)), [2], none⟩, ⟨(some 15), (.build [(.d (.int .i64 0)), (.d (.str ⟨#[]⟩)), (.d (.int .i64 0)), (.d (.int .i64 0))] [(0, (1, (.k (.one (.d (.int .i64 2)))))), (2, (1, (.t 12))),
  (3, (1, (.t 14)))]), [1, 3], none⟩, ⟨none, (.store 4 (.t 2) (.t 15)), [4, 0, 1, 2, 3, 4], none⟩]) .ret) .skip))) j25_0))⟩
theorem c25 : compFunc Try.prog [none, some [2], none, none, none, none] Try.f25 = some sf25 := by kernel_rfl
/-! sortilege/sortilegelaw06.Few -/
def j30_1 : SCode :=
  (.region false [⟨(some 11), (.mov (.t 6)), [], none⟩, ⟨(some 12), (.ibin .i64 .add (.t 11) (.k (.one (.d (.int .i64 1))))), [0], none⟩, ⟨(some 6), (.mov (.t 12)), [1, 0, 1], none⟩])
def j30_0 : SCode :=
  (.seq (some [0, 1, 5, 6]) (.block 1 (.region false [⟨(some 13), (.mov (.t 1)), [], none⟩, ⟨(some 14), (.mov (.t 6)), [], none⟩, ⟨(some 15), (.iaddr 8 (.t 13) (.t 14)), [0, 1], none⟩, ⟨(some 16),
  (.load true 8 (.t 15)), [2], none⟩, ⟨(some 17), (.mov (.t 5)), [], none⟩, ⟨(some 18), (.mov (.t 0)), [], none⟩, ⟨(some 19), (.call 69 [(.t 16), (.t 17), (.t 18)]), [3, 4, 5], none⟩, ⟨(some 5),
  (.mov (.t 19)), [6, 6, 0, 1, 2, 3, 4, 5, 6], none⟩])) j30_1)
def lb30_0 : SCode :=
  (.seq (some [0, 1, 5, 6]) (.seq none (.region false [⟨(some 7), (.mov (.t 6)), [], none⟩, ⟨(some 8), (.mov (.t 1)), [], none⟩, ⟨(some 9), (.len false (.t 8)), [1], none⟩, ⟨(some 10),
  (.ibin .i64 .lss (.t 7) (.t 9)), [0, 2], none⟩]) (.cond (.t 10) .skip (.exit 0))) j30_0)
def j30_2 : SCode :=
  (.seq none (.region false [⟨(some 20), (.mov (.t 5)), [], none⟩, ⟨(some 21), (.mov (.t 0)), [], none⟩, ⟨(some 22), (.ibin .i64 .leq (.t 20) (.t 21)), [0, 1], none⟩, ⟨(some 4), (.mov (.t 22)), [2, 0,
  1, 2], none⟩]) .ret)
def sf30 : SFunc :=
  ⟨2, [(.tmp 4)], (.seq none (.region false [⟨(some 4), (.mov (.k (.one (.d (.bool false))))), [], none⟩]) (.seq none (.region false [⟨(some 5), (.mov (.k (.one (.d (.int .i64 0))))), [],
  none⟩]) (.seq (some [0, 5]) (.seq none (.region false [⟨(some 6), (.mov (.k (.one (.d (.int .i64 0))))), [], none⟩]) (.block 0 (.loop [0, 1, 5, 6] lb30_0))) j30_2)))⟩
theorem c30 : compFunc Try.prog [none, none, some [0, 5], none, some [0, 1, 5, 6], some [0, 1, 5, 6], none, some [0, 1, 5, 6], none] Try.f30 = some sf30 := by kernel_rfl
/-! sortilege/sortilegelaw03.FewTypes -/
def j31_1 : SCode :=
  (.region false [⟨(some 11), (.mov (.t 6)), [], none⟩, ⟨(some 12), (.ibin .i64 .add (.t 11) (.k (.one (.d (.int .i64 1))))), [0], none⟩, ⟨(some 6), (.mov (.t 12)), [1, 0, 1], none⟩])
def j31_0 : SCode :=
  (.seq (some [0, 1, 5, 6]) (.block 1 (.region false [⟨(some 13), (.mov (.t 1)), [], none⟩, ⟨(some 14), (.mov (.t 6)), [], none⟩, ⟨(some 15), (.iaddr 2 (.t 13) (.t 14)), [0, 1], none⟩, ⟨(some 16),
  (.load true 2 (.t 15)), [2], none⟩, ⟨(some 17), (.mov (.t 5)), [], none⟩, ⟨(some 18), (.mov (.t 0)), [], none⟩, ⟨(some 19), (.call 70 [(.t 16), (.t 17), (.t 18)]), [3, 4, 5], none⟩, ⟨(some 5),
  (.mov (.t 19)), [6, 6, 0, 1, 2, 3, 4, 5, 6], none⟩])) j31_1)
def lb31_0 : SCode :=
  (.seq (some [0, 1, 5, 6]) (.seq none (.region false [⟨(some 7), (.mov (.t 6)), [], none⟩, ⟨(some 8), (.mov (.t 1)), [], none⟩, ⟨(some 9), (.len false (.t 8)), [1], none⟩, ⟨(some 10),
  (.ibin .i64 .lss (.t 7) (.t 9)), [0, 2], none⟩]) (.cond (.t 10) .skip (.exit 0))) j31_0)
def j31_2 : SCode :=
  (.seq none (.region false [⟨(some 20), (.mov (.t 5)), [], none⟩, ⟨(some 21), (.mov (.t 0)), [], none⟩, ⟨(some 22), (.ibin .i64 .leq (.t 20) (.t 21)), [0, 1], none⟩, ⟨(some 4), (.mov (.t 22)), [2, 0,
  1, 2], none⟩]) .ret)
def sf31 : SFunc :=
  ⟨2, [(.tmp 4)], (.seq none (.region false [⟨(some 4), (.mov (.k (.one (.d (.bool false))))), [], none⟩]) (.seq none (.region false [⟨(some 5), (.mov (.k (.one (.d (.int .i64 0))))), [],
  none⟩]) (.seq (some [0, 5]) (.seq none (.region false [⟨(some 6), (.mov (.k (.one (.d (.int .i64 0))))), [], none⟩]) (.block 0 (.loop [0, 1, 5, 6] lb31_0))) j31_2)))⟩
theorem c31 : compFunc Try.prog [none, none, some [0, 5], none, some [0, 1, 5, 6], some [0, 1, 5, 6], none, some [0, 1, 5, 6], none] Try.f31 = some sf31 := by kernel_rfl
/-! slices.Equal[[]string,string] -/
def j32_2 : SCode :=
  (.region false [⟨(some 25), (.ibin .i64 .add (.t 13) (.k (.one (.d (.int .i64 1))))), [], none⟩, ⟨(some 13), (.mov (.t 25)), [0], none⟩])
def j32_1 : SCode :=
  (.seq (some [0, 1, 12, 13]) (.block 1 (.seq none (.region false [⟨(some 15), (.mov (.t 13)), [], none⟩, ⟨(some 5), (.mov (.t 15)), [0, 0], none⟩]) (.seq none (.region true [⟨(some 16), (.mov (.t 0)),
  [], none⟩, ⟨(some 17), (.mov (.t 5)), [], none⟩, ⟨(some 18), (.iaddr 1 (.t 16) (.t 17)), [0, 1], none⟩, ⟨(some 19), (.load false 1 (.t 18)), [2], none⟩, ⟨(some 20), (.mov (.t 1)), [], none⟩,
  ⟨(some 21), (.mov (.t 5)), [], none⟩, ⟨(some 22), (.iaddr 1 (.t 20) (.t 21)), [4, 5], none⟩, ⟨(some 23), (.load false 1 (.t 22)), [6], none⟩, ⟨(some 24), (.sbin .neq (.t 19) (.t 23)), [3, 7],
  none⟩]) (.cond (.t 24) (.seq none (.region false [⟨(some 4), (.mov (.k (.one (.d (.bool false))))), [], none⟩]) .ret) .skip)))) j32_2)
def lb32_0 : SCode :=
  (.seq none (.region false [⟨(some 14), (.ibin .i64 .lss (.t 13) (.t 12)), [], none⟩]) (.seq (some [0, 1, 12, 13]) (.cond (.t 14) .skip (.exit 0)) j32_1))
def j32_3 : SCode :=
  (.seq none (.region false [⟨(some 4), (.mov (.k (.one (.d (.bool true))))), [], none⟩]) .ret)
def j32_0 : SCode :=
  (.seq (some []) (.seq none (.region false [⟨(some 11), (.mov (.t 0)), [], none⟩, ⟨(some 12), (.len false (.t 11)), [0], none⟩, ⟨(some 13), (.mov (.k (.one (.d (.int .i64 0))))), [],
  none⟩]) (.block 0 (.loop [0, 1, 12, 13] lb32_0))) j32_3)
def sf32 : SFunc :=
  ⟨2, [(.tmp 4)], (.seq none (.region false [⟨(some 4), (.mov (.k (.one (.d (.bool false))))), [], none⟩]) (.seq (some [0, 1]) (.seq none (.region false [⟨(some 6), (.mov (.t 0)), [], none⟩, ⟨(some 7),
  (.len false (.t 6)), [0], none⟩, ⟨(some 8), (.mov (.t 1)), [], none⟩, ⟨(some 9), (.len false (.t 8)), [2], none⟩, ⟨(some 10), (.ibin .i64 .neq (.t 7) (.t 9)), [1, 3],
  none⟩]) (.cond (.t 10) (.seq none (.region false [⟨(some 4), (.mov (.k (.one (.d (.bool false))))), [], none⟩]) .ret) .skip)) j32_0))⟩
theorem c32 : compFunc Try.prog [none, some [0, 1], none, none, some [], none, some [0, 1, 12, 13], none, some [0, 1, 12, 13], some [0, 1, 12, 13], none, none, none, none] Try.f32 = some sf32 := by kernel_rfl
/-! slices.Equal[[]int,int] -/
def j33_2 : SCode :=
  (.region false [⟨(some 25), (.ibin .i64 .add (.t 13) (.k (.one (.d (.int .i64 1))))), [], none⟩, ⟨(some 13), (.mov (.t 25)), [0], none⟩])
def j33_1 : SCode :=
  (.seq (some [0, 1, 12, 13]) (.block 1 (.seq none (.region false [⟨(some 15), (.mov (.t 13)), [], none⟩, ⟨(some 5), (.mov (.t 15)), [0, 0], none⟩]) (.seq none (.region true [⟨(some 16), (.mov (.t 0)),
  [], none⟩, ⟨(some 17), (.mov (.t 5)), [], none⟩, ⟨(some 18), (.iaddr 1 (.t 16) (.t 17)), [0, 1], none⟩, ⟨(some 19), (.load false 1 (.t 18)), [2], none⟩, ⟨(some 20), (.mov (.t 1)), [], none⟩,
  ⟨(some 21), (.mov (.t 5)), [], none⟩, ⟨(some 22), (.iaddr 1 (.t 20) (.t 21)), [4, 5], none⟩, ⟨(some 23), (.load false 1 (.t 22)), [6], none⟩, ⟨(some 24), (.ibin .i64 .neq (.t 19) (.t 23)), [3, 7],
  none⟩]) (.cond (.t 24) (.seq none (.region false [⟨(some 4), (.mov (.k (.one (.d (.bool false))))), [], none⟩]) .ret) .skip)))) j33_2)
def lb33_0 : SCode :=
  (.seq none (.region false [⟨(some 14), (.ibin .i64 .lss (.t 13) (.t 12)), [], none⟩]) (.seq (some [0, 1, 12, 13]) (.cond (.t 14) .skip (.exit 0)) j33_1))
def j33_3 : SCode :=
  (.seq none (.region false [⟨(some 4), (.mov (.k (.one (.d (.bool true))))), [], none⟩]) .ret)
def j33_0 : SCode :=
  (.seq (some []) (.seq none (.region false [⟨(some 11), (.mov (.t 0)), [], none⟩, ⟨(some 12), (.len false (.t 11)), [0], none⟩, ⟨(some 13), (.mov (.k (.one (.d (.int .i64 0))))), [],
  none⟩]) (.block 0 (.loop [0, 1, 12, 13] lb33_0))) j33_3)
def sf33 : SFunc :=
  ⟨2, [(.tmp 4)], (.seq none (.region false [⟨(some 4), (.mov (.k (.one (.d (.bool false))))), [], none⟩]) (.seq (some [0, 1]) (.seq none (.region false [⟨(some 6), (.mov (.t 0)), [], none⟩, ⟨(some 7),
  (.len false (.t 6)), [0], none⟩, ⟨(some 8), (.mov (.t 1)), [], none⟩, ⟨(some 9), (.len false (.t 8)), [2], none⟩, ⟨(some 10), (.ibin .i64 .neq (.t 7) (.t 9)), [1, 3],
  none⟩]) (.cond (.t 10) (.seq none (.region false [⟨(some 4), (.mov (.k (.one (.d (.bool false))))), [], none⟩]) .ret) .skip)) j33_0))⟩
theorem c33 : compFunc Try.prog [none, some [0, 1], none, none, some [], none, some [0, 1, 12, 13], none, some [0, 1, 12, 13], some [0, 1, 12, 13], none, none, none, none] Try.f33 = some sf33 := by kernel_rfl
/-! slices.EqualFunc[[]sortilege/api.Expr,[]sortilege/api.Expr,sortilege/api.Expr,sortilege/api.Expr] -/
def j34_2 : SCode :=
  (.region false [⟨(some 31), (.ibin .i64 .add (.t 17) (.k (.one (.d (.int .i64 1))))), [], none⟩, ⟨(some 17), (.mov (.t 31)), [0], none⟩])
def j34_1 : SCode :=
  (.seq (some [1, 2, 15, 16, 17]) (.block 1 (.seq none (.region false [⟨(some 19), (.mov (.t 17)), [], none⟩, ⟨(some 20), (.iaddr 8 (.t 15) (.t 17)), [], none⟩, ⟨(some 21), (.load true 8 (.t 20)), [1],
  none⟩, ⟨(some 8), (.alloc [(.int .i64), (.int .i64), .str, (.lst 1), (.lst 1), (.lst 8), (.int .i64), (.int .i64)] [(.d (.int .i64 0)), (.d (.int .i64 0)), (.d (.str ⟨#[]⟩)), (.nilL 1), (.nilL 1),
  (.nilL 8), (.d (.int .i64 0)), (.d (.int .i64 0))]), [], none⟩, ⟨(some 7), (.mov (.t 19)), [0, 0, 1, 2, 3], none⟩, ⟨none, (.store 8 (.t 8) (.t 21)), [3, 2, 4, 0, 1, 2, 3, 4],
  none⟩]) (.seq none (.region false [⟨(some 22), (.mov (.t 1)), [], none⟩, ⟨(some 23), (.mov (.t 7)), [], none⟩, ⟨(some 24), (.iaddr 8 (.t 22) (.t 23)), [0, 1], none⟩, ⟨(some 25),
  (.load true 8 (.t 24)), [2], none⟩, ⟨(some 9), (.alloc [(.int .i64), (.int .i64), .str, (.lst 1), (.lst 1), (.lst 8), (.int .i64), (.int .i64)] [(.d (.int .i64 0)), (.d (.int .i64 0)),
  (.d (.str ⟨#[]⟩)), (.nilL 1), (.nilL 1), (.nilL 8), (.d (.int .i64 0)), (.d (.int .i64 0))]), [], none⟩, ⟨none, (.store 8 (.t 9) (.t 25)), [4, 3, 0, 1, 2, 3, 4],
  none⟩]) (.seq none (.region false [⟨(some 26), (.mov (.t 2)), [], none⟩, ⟨(some 27), (.load true 8 (.t 8)), [], none⟩, ⟨(some 28), (.load true 8 (.t 9)), [], none⟩, ⟨(some 29),
  (.callv (.t 26) [(.t 27), (.t 28)]), [0, 1, 2], none⟩, ⟨(some 30), (.inot (.t 29)), [3], none⟩]) (.cond (.t 30) (.seq none (.region false [⟨(some 6), (.mov (.k (.one (.d (.bool false))))), [],
  none⟩]) .ret) .skip))))) j34_2)
def lb34_0 : SCode :=
  (.seq none (.region false [⟨(some 18), (.ibin .i64 .lss (.t 17) (.t 16)), [], none⟩]) (.seq (some [1, 2, 15, 16, 17]) (.cond (.t 18) .skip (.exit 0)) j34_1))
def j34_3 : SCode :=
  (.seq none (.region false [⟨(some 6), (.mov (.k (.one (.d (.bool true))))), [], none⟩]) .ret)
def j34_0 : SCode :=
  (.seq (some []) (.seq none (.region false [⟨(some 15), (.mov (.t 0)), [], none⟩, ⟨(some 16), (.len false (.t 15)), [0], none⟩, ⟨(some 17), (.mov (.k (.one (.d (.int .i64 0))))), [],
  none⟩]) (.block 0 (.loop [1, 2, 15, 16, 17] lb34_0))) j34_3)
def sf34 : SFunc :=
  ⟨3, [(.tmp 6)], (.seq none (.region false [⟨(some 6), (.mov (.k (.one (.d (.bool false))))), [], none⟩]) (.seq (some [0, 1, 2]) (.seq none (.region false [⟨(some 10), (.mov (.t 0)), [], none⟩,
  ⟨(some 11), (.len false (.t 10)), [0], none⟩, ⟨(some 12), (.mov (.t 1)), [], none⟩, ⟨(some 13), (.len false (.t 12)), [2], none⟩, ⟨(some 14), (.ibin .i64 .neq (.t 11) (.t 13)), [1, 3],
  none⟩]) (.cond (.t 14) (.seq none (.region false [⟨(some 6), (.mov (.k (.one (.d (.bool false))))), [], none⟩]) .ret) .skip)) j34_0))⟩
theorem c34 : compFunc Try.prog [none, some [0, 1, 2], none, none, some [], none, some [1, 2, 15, 16, 17], none, some [1, 2, 15, 16, 17], some [1, 2, 15, 16, 17], none, none, none, none, none] Try.f34 = some sf34 := by kernel_rfl
/-! sortilege/sortilegeref06.strings -/
def j35_2 : SCode :=
  (.region false [⟨(some 15), (.mov (.t 5)), [], none⟩, ⟨(some 16), (.ibin .i64 .add (.t 15) (.k (.one (.d (.int .i64 1))))), [0], none⟩, ⟨(some 5), (.mov (.t 16)), [1, 0, 1], none⟩])
def j35_1 : SCode :=
  (.seq (some [0, 1, 5]) (.block 1 (.seq none (.region true [⟨(some 17), (.mov (.t 0)), [], none⟩, ⟨(some 18), (.mov (.t 5)), [], none⟩, ⟨(some 19), (.iaddr 1 (.t 17) (.t 18)), [0, 1], none⟩,
  ⟨(some 20), (.load false 1 (.t 19)), [2], none⟩, ⟨(some 21), (.mov (.t 1)), [], none⟩, ⟨(some 22), (.mov (.t 5)), [], none⟩, ⟨(some 23), (.iaddr 1 (.t 21) (.t 22)), [4, 5], none⟩, ⟨(some 24),
  (.load false 1 (.t 23)), [6], none⟩, ⟨(some 25), (.sbin .neq (.t 20) (.t 24)), [3, 7], none⟩]) (.cond (.t 25) (.seq none (.region false [⟨(some 4), (.mov (.k (.one (.d (.bool false))))), [],
  none⟩]) .ret) .skip))) j35_2)
def lb35_0 : SCode :=
  (.seq (some [0, 1, 5]) (.seq none (.region false [⟨(some 11), (.mov (.t 5)), [], none⟩, ⟨(some 12), (.mov (.t 0)), [], none⟩, ⟨(some 13), (.len false (.t 12)), [1], none⟩, ⟨(some 14),
  (.ibin .i64 .lss (.t 11) (.t 13)), [0, 2], none⟩]) (.cond (.t 14) .skip (.exit 0))) j35_1)
def j35_3 : SCode :=
  (.seq none (.region false [⟨(some 4), (.mov (.k (.one (.d (.bool true))))), [], none⟩]) .ret)
def j35_0 : SCode :=
  (.seq (some []) (.seq none (.region false [⟨(some 5), (.mov (.k (.one (.d (.int .i64 0))))), [], none⟩]) (.block 0 (.loop [0, 1, 5] lb35_0))) j35_3)
def sf35 : SFunc :=
  ⟨2, [(.tmp 4)], (.seq none (.region false [⟨(some 4), (.mov (.k (.one (.d (.bool false))))), [], none⟩]) (.seq (some [0, 1]) (.seq none (.region false [⟨(some 6), (.mov (.t 0)), [], none⟩, ⟨(some 7),
  (.len false (.t 6)), [0], none⟩, ⟨(some 8), (.mov (.t 1)), [], none⟩, ⟨(some 9), (.len false (.t 8)), [2], none⟩, ⟨(some 10), (.ibin .i64 .neq (.t 7) (.t 9)), [1, 3],
  none⟩]) (.cond (.t 10) (.seq none (.region false [⟨(some 4), (.mov (.k (.one (.d (.bool false))))), [], none⟩]) .ret) .skip)) j35_0))⟩
theorem c35 : compFunc Try.prog [none, some [0, 1], none, none, some [], none, some [0, 1, 5], some [0, 1, 5], none, some [0, 1, 5], none, none, none] Try.f35 = some sf35 := by kernel_rfl
/-! sortilege/sortilegeref06.ints -/
def j36_2 : SCode :=
  (.region false [⟨(some 15), (.mov (.t 5)), [], none⟩, ⟨(some 16), (.ibin .i64 .add (.t 15) (.k (.one (.d (.int .i64 1))))), [0], none⟩, ⟨(some 5), (.mov (.t 16)), [1, 0, 1], none⟩])
def j36_1 : SCode :=
  (.seq (some [0, 1, 5]) (.block 1 (.seq none (.region true [⟨(some 17), (.mov (.t 0)), [], none⟩, ⟨(some 18), (.mov (.t 5)), [], none⟩, ⟨(some 19), (.iaddr 1 (.t 17) (.t 18)), [0, 1], none⟩,
  ⟨(some 20), (.load false 1 (.t 19)), [2], none⟩, ⟨(some 21), (.mov (.t 1)), [], none⟩, ⟨(some 22), (.mov (.t 5)), [], none⟩, ⟨(some 23), (.iaddr 1 (.t 21) (.t 22)), [4, 5], none⟩, ⟨(some 24),
  (.load false 1 (.t 23)), [6], none⟩, ⟨(some 25), (.ibin .i64 .neq (.t 20) (.t 24)), [3, 7], none⟩]) (.cond (.t 25) (.seq none (.region false [⟨(some 4), (.mov (.k (.one (.d (.bool false))))), [],
  none⟩]) .ret) .skip))) j36_2)
def lb36_0 : SCode :=
  (.seq (some [0, 1, 5]) (.seq none (.region false [⟨(some 11), (.mov (.t 5)), [], none⟩, ⟨(some 12), (.mov (.t 0)), [], none⟩, ⟨(some 13), (.len false (.t 12)), [1], none⟩, ⟨(some 14),
  (.ibin .i64 .lss (.t 11) (.t 13)), [0, 2], none⟩]) (.cond (.t 14) .skip (.exit 0))) j36_1)
def j36_3 : SCode :=
  (.seq none (.region false [⟨(some 4), (.mov (.k (.one (.d (.bool true))))), [], none⟩]) .ret)
def j36_0 : SCode :=
  (.seq (some []) (.seq none (.region false [⟨(some 5), (.mov (.k (.one (.d (.int .i64 0))))), [], none⟩]) (.block 0 (.loop [0, 1, 5] lb36_0))) j36_3)
def sf36 : SFunc :=
  ⟨2, [(.tmp 4)], (.seq none (.region false [⟨(some 4), (.mov (.k (.one (.d (.bool false))))), [], none⟩]) (.seq (some [0, 1]) (.seq none (.region false [⟨(some 6), (.mov (.t 0)), [], none⟩, ⟨(some 7),
  (.len false (.t 6)), [0], none⟩, ⟨(some 8), (.mov (.t 1)), [], none⟩, ⟨(some 9), (.len false (.t 8)), [2], none⟩, ⟨(some 10), (.ibin .i64 .neq (.t 7) (.t 9)), [1, 3],
  none⟩]) (.cond (.t 10) (.seq none (.region false [⟨(some 4), (.mov (.k (.one (.d (.bool false))))), [], none⟩]) .ret) .skip)) j36_0))⟩
theorem c36 : compFunc Try.prog [none, some [0, 1], none, none, some [], none, some [0, 1, 5], some [0, 1, 5], none, some [0, 1, 5], none, none, none] Try.f36 = some sf36 := by kernel_rfl
/-! slices.EqualFunc[[]sortilege/api.Field,[]sortilege/api.Field,sortilege/api.Field,sortilege/api.Field] -/
def j37_2 : SCode :=
  (.region false [⟨(some 31), (.ibin .i64 .add (.t 17) (.k (.one (.d (.int .i64 1))))), [], none⟩, ⟨(some 17), (.mov (.t 31)), [0], none⟩])
def j37_1 : SCode :=
  (.seq (some [1, 2, 15, 16, 17]) (.block 1 (.seq none (.region false [⟨(some 19), (.mov (.t 17)), [], none⟩, ⟨(some 20), (.iaddr 5 (.t 15) (.t 17)), [], none⟩, ⟨(some 21), (.load true 5 (.t 20)), [1],
  none⟩, ⟨(some 8), (.alloc [.str, (.int .i64), (.lst 2), (.int .i64), (.int .i64)] [(.d (.str ⟨#[]⟩)), (.d (.int .i64 0)), (.nilL 2), (.d (.int .i64 0)), (.d (.int .i64 0))]), [], none⟩, ⟨(some 7),
  (.mov (.t 19)), [0, 0, 1, 2, 3], none⟩, ⟨none, (.store 5 (.t 8) (.t 21)), [3, 2, 4, 0, 1, 2, 3, 4], none⟩]) (.seq none (.region false [⟨(some 22), (.mov (.t 1)), [], none⟩, ⟨(some 23),
  (.mov (.t 7)), [], none⟩, ⟨(some 24), (.iaddr 5 (.t 22) (.t 23)), [0, 1], none⟩, ⟨(some 25), (.load true 5 (.t 24)), [2], none⟩, ⟨(some 9), (.alloc [.str, (.int .i64), (.lst 2), (.int .i64),
  (.int .i64)] [(.d (.str ⟨#[]⟩)), (.d (.int .i64 0)), (.nilL 2), (.d (.int .i64 0)), (.d (.int .i64 0))]), [], none⟩, ⟨none, (.store 5 (.t 9) (.t 25)), [4, 3, 0, 1, 2, 3, 4],
  none⟩]) (.seq none (.region false [⟨(some 26), (.mov (.t 2)), [], none⟩, ⟨(some 27), (.load true 5 (.t 8)), [], none⟩, ⟨(some 28), (.load true 5 (.t 9)), [], none⟩, ⟨(some 29),
  (.callv (.t 26) [(.t 27), (.t 28)]), [0, 1, 2], none⟩, ⟨(some 30), (.inot (.t 29)), [3], none⟩]) (.cond (.t 30) (.seq none (.region false [⟨(some 6), (.mov (.k (.one (.d (.bool false))))), [],
  none⟩]) .ret) .skip))))) j37_2)
def lb37_0 : SCode :=
  (.seq none (.region false [⟨(some 18), (.ibin .i64 .lss (.t 17) (.t 16)), [], none⟩]) (.seq (some [1, 2, 15, 16, 17]) (.cond (.t 18) .skip (.exit 0)) j37_1))
def j37_3 : SCode :=
  (.seq none (.region false [⟨(some 6), (.mov (.k (.one (.d (.bool true))))), [], none⟩]) .ret)
def j37_0 : SCode :=
  (.seq (some []) (.seq none (.region false [⟨(some 15), (.mov (.t 0)), [], none⟩, ⟨(some 16), (.len false (.t 15)), [0], none⟩, ⟨(some 17), (.mov (.k (.one (.d (.int .i64 0))))), [],
  none⟩]) (.block 0 (.loop [1, 2, 15, 16, 17] lb37_0))) j37_3)
def sf37 : SFunc :=
  ⟨3, [(.tmp 6)], (.seq none (.region false [⟨(some 6), (.mov (.k (.one (.d (.bool false))))), [], none⟩]) (.seq (some [0, 1, 2]) (.seq none (.region false [⟨(some 10), (.mov (.t 0)), [], none⟩,
  ⟨(some 11), (.len false (.t 10)), [0], none⟩, ⟨(some 12), (.mov (.t 1)), [], none⟩, ⟨(some 13), (.len false (.t 12)), [2], none⟩, ⟨(some 14), (.ibin .i64 .neq (.t 11) (.t 13)), [1, 3],
  none⟩]) (.cond (.t 14) (.seq none (.region false [⟨(some 6), (.mov (.k (.one (.d (.bool false))))), [], none⟩]) .ret) .skip)) j37_0))⟩
theorem c37 : compFunc Try.prog [none, some [0, 1, 2], none, none, some [], none, some [1, 2, 15, 16, 17], none, some [1, 2, 15, 16, 17], some [1, 2, 15, 16, 17], none, none, none, none, none] Try.f37 = some sf37 := by kernel_rfl
/-! sortilege/parser.sameField -/
def sf38 : SFunc :=
  ⟨2, [(.tmp 4)], (.seq none (.region false [⟨(some 2), (.box [.str, (.int .i64), (.lst 2), (.int .i64), (.int .i64)] (.t 0)), [], none⟩, ⟨(some 3), (.box [.str, (.int .i64), (.lst 2), (.int .i64),
  (.int .i64)] (.t 1)), [], none⟩, ⟨(some 4), (.mov (.k (.one (.d (.bool false))))), [], none⟩]) (.seq none (.region false [⟨(some 5), (.faddr 0 (.t 2)), [], none⟩, ⟨(some 6), (.load false 1 (.t 5)),
  [0], none⟩, ⟨(some 7), (.faddr 0 (.t 3)), [], none⟩, ⟨(some 8), (.load false 1 (.t 7)), [2], none⟩, ⟨(some 9), (.sbin .eql (.t 6) (.t 8)), [1, 3], none⟩, ⟨(some 10), (.mov (.t 9)), [4], none⟩,
  ⟨(some 11), (.faddr 1 (.t 2)), [5], (some (5, (10, true)))⟩, ⟨(some 12), (.load true 2 (.t 11)), [6, 5], (some (5, (10, true)))⟩, ⟨(some 13), (.faddr 1 (.t 3)), [5], (some (5, (10, true)))⟩,
  ⟨(some 14), (.load true 2 (.t 13)), [8, 5], (some (5, (10, true)))⟩, ⟨(some 15), (.call 41 [(.t 12), (.t 14)]), [7, 9, 5, 5], (some (5, (10, true)))⟩, ⟨(some 16),
  (.pick (.t 10) (.t 15) (.k (.one (.d (.bool false))))), [5, 10], none⟩, ⟨(some 4), (.mov (.t 16)), [11, 10, 0, 1, 2, 3, 4, 5, 6, 7, 8, 9, 10, 11], none⟩]) .ret))⟩
theorem c38 : compFunc Try.prog [none, none] Try.f38 = some sf38 := by kernel_rfl
/-! slices.EqualFunc[[]sortilege/api.Fun,[]sortilege/api.Fun,sortilege/api.Fun,sortilege/api.Fun] -/
def j39_2 : SCode :=
  (.region false [⟨(some 31), (.ibin .i64 .add (.t 17) (.k (.one (.d (.int .i64 1))))), [], none⟩, ⟨(some 17), (.mov (.t 31)), [0], none⟩])
def j39_1 : SCode :=
  (.seq (some [1, 2, 15, 16, 17]) (.block 1 (.seq none (.region false [⟨(some 19), (.mov (.t 17)), [], none⟩, ⟨(some 20), (.iaddr 14 (.t 15) (.t 17)), [], none⟩, ⟨(some 21), (.load true 14 (.t 20)),
  [1], none⟩, ⟨(some 8), (.alloc [.str, (.lst 5), (.int .i64), (.lst 2), (.int .i64), (.int .i64), .str, (.lst 1), (.lst 1), (.lst 8), (.int .i64), (.int .i64), (.int .i64),
  (.int .i64)] [(.d (.str ⟨#[]⟩)), (.nilL 5), (.d (.int .i64 0)), (.nilL 2), (.d (.int .i64 0)), (.d (.int .i64 0)), (.d (.str ⟨#[]⟩)), (.nilL 1), (.nilL 1), (.nilL 8), (.d (.int .i64 0)),
  (.d (.int .i64 0)), (.d (.int .i64 0)), (.d (.int .i64 0))]), [], none⟩, ⟨(some 7), (.mov (.t 19)), [0, 0, 1, 2, 3], none⟩, ⟨none, (.store 14 (.t 8) (.t 21)), [3, 2, 4, 0, 1, 2, 3, 4],
  none⟩]) (.seq none (.region false [⟨(some 22), (.mov (.t 1)), [], none⟩, ⟨(some 23), (.mov (.t 7)), [], none⟩, ⟨(some 24), (.iaddr 14 (.t 22) (.t 23)), [0, 1], none⟩, ⟨(some 25),
  (.load true 14 (.t 24)), [2], none⟩, ⟨(some 9), (.alloc [.str, (.lst 5), (.int .i64), (.lst 2), (.int .i64), (.int .i64), .str, (.lst 1), (.lst 1), (.lst 8), (.int .i64), (.int .i64), (.int .i64),
  (.int .i64)] [(.d (.str ⟨#[]⟩)), (.nilL 5), (.d (.int .i64 0)), (.nilL 2), (.d (.int .i64 0)), (.d (.int .i64 0)), (.d (.str ⟨#[]⟩)), (.nilL 1), (.nilL 1), (.nilL 8), (.d (.int .i64 0)),
  (.d (.int .i64 0)), (.d (.int .i64 0)), (.d (.int .i64 0))]), [], none⟩, ⟨none, (.store 14 (.t 9) (.t 25)), [4, 3, 0, 1, 2, 3, 4], none⟩]) (.seq none (.region false [⟨(some 26), (.mov (.t 2)), [],
  none⟩, ⟨(some 27), (.load true 14 (.t 8)), [], none⟩, ⟨(some 28), (.load true 14 (.t 9)), [], none⟩, ⟨(some 29), (.callv (.t 26) [(.t 27), (.t 28)]), [0, 1, 2], none⟩, ⟨(some 30), (.inot (.t 29)),
  [3], none⟩]) (.cond (.t 30) (.seq none (.region false [⟨(some 6), (.mov (.k (.one (.d (.bool false))))), [], none⟩]) .ret) .skip))))) j39_2)
def lb39_0 : SCode :=
  (.seq none (.region false [⟨(some 18), (.ibin .i64 .lss (.t 17) (.t 16)), [], none⟩]) (.seq (some [1, 2, 15, 16, 17]) (.cond (.t 18) .skip (.exit 0)) j39_1))
def j39_3 : SCode :=
  (.seq none (.region false [⟨(some 6), (.mov (.k (.one (.d (.bool true))))), [], none⟩]) .ret)
def j39_0 : SCode :=
  (.seq (some []) (.seq none (.region false [⟨(some 15), (.mov (.t 0)), [], none⟩, ⟨(some 16), (.len false (.t 15)), [0], none⟩, ⟨(some 17), (.mov (.k (.one (.d (.int .i64 0))))), [],
  none⟩]) (.block 0 (.loop [1, 2, 15, 16, 17] lb39_0))) j39_3)
def sf39 : SFunc :=
  ⟨3, [(.tmp 6)], (.seq none (.region false [⟨(some 6), (.mov (.k (.one (.d (.bool false))))), [], none⟩]) (.seq (some [0, 1, 2]) (.seq none (.region false [⟨(some 10), (.mov (.t 0)), [], none⟩,
  ⟨(some 11), (.len false (.t 10)), [0], none⟩, ⟨(some 12), (.mov (.t 1)), [], none⟩, ⟨(some 13), (.len false (.t 12)), [2], none⟩, ⟨(some 14), (.ibin .i64 .neq (.t 11) (.t 13)), [1, 3],
  none⟩]) (.cond (.t 14) (.seq none (.region false [⟨(some 6), (.mov (.k (.one (.d (.bool false))))), [], none⟩]) .ret) .skip)) j39_0))⟩
theorem c39 : compFunc Try.prog [none, some [0, 1, 2], none, none, some [], none, some [1, 2, 15, 16, 17], none, some [1, 2, 15, 16, 17], some [1, 2, 15, 16, 17], none, none, none, none, none] Try.f39 = some sf39 := by kernel_rfl
/-! sortilege/parser.SameProgram$1 -/
def sf40 : SFunc :=
  ⟨2, [(.tmp 4)], (.seq none (.region false [⟨(some 2), (.box [.str, (.lst 5), (.int .i64), (.lst 2), (.int .i64), (.int .i64), .str, (.lst 1), (.lst 1), (.lst 8), (.int .i64), (.int .i64), (.int .i64),
  (.int .i64)] (.t 0)), [], none⟩, ⟨(some 3), (.box [.str, (.lst 5), (.int .i64), (.lst 2), (.int .i64), (.int .i64), .str, (.lst 1), (.lst 1), (.lst 8), (.int .i64), (.int .i64), (.int .i64),
  (.int .i64)] (.t 1)), [], none⟩, ⟨(some 4), (.mov (.k (.one (.d (.bool false))))), [], none⟩]) (.seq none (.region false [⟨(some 5), (.faddr 0 (.t 2)), [], none⟩, ⟨(some 6), (.load false 1 (.t 5)),
  [0], none⟩, ⟨(some 7), (.faddr 0 (.t 3)), [], none⟩, ⟨(some 8), (.load false 1 (.t 7)), [2], none⟩, ⟨(some 9), (.sbin .eql (.t 6) (.t 8)), [1, 3], none⟩, ⟨(some 10), (.mov (.t 9)), [4], none⟩,
  ⟨(some 11), (.faddr 1 (.t 2)), [5], (some (5, (10, true)))⟩, ⟨(some 12), (.load false 1 (.t 11)), [6, 5], (some (5, (10, true)))⟩, ⟨(some 13), (.faddr 1 (.t 3)), [5], (some (5, (10, true)))⟩,
  ⟨(some 14), (.load false 1 (.t 13)), [8, 5], (some (5, (10, true)))⟩, ⟨(some 15), (.call 37 [(.t 12), (.t 14), (.k (.one (.fn 38 [])))]), [7, 9, 5, 5], (some (5, (10, true)))⟩, ⟨(some 16),
  (.pick (.t 10) (.t 15) (.k (.one (.d (.bool false))))), [5, 10], none⟩, ⟨(some 17), (.mov (.t 16)), [11, 10], none⟩, ⟨(some 18), (.faddr 2 (.t 2)), [12], (some (12, (17, true)))⟩, ⟨(some 19),
  (.load true 2 (.t 18)), [13, 12], (some (12, (17, true)))⟩, ⟨(some 20), (.faddr 2 (.t 3)), [12], (some (12, (17, true)))⟩, ⟨(some 21), (.load true 2 (.t 20)), [15, 12], (some (12, (17, true)))⟩,
  ⟨(some 22), (.call 41 [(.t 19), (.t 21)]), [14, 16, 12, 12], (some (12, (17, true)))⟩, ⟨(some 23), (.pick (.t 17) (.t 22) (.k (.one (.d (.bool false))))), [12, 17], none⟩, ⟨(some 24),
  (.mov (.t 23)), [18, 17], none⟩, ⟨(some 25), (.faddr 4 (.t 2)), [19], (some (19, (24, true)))⟩, ⟨(some 26), (.load true 8 (.t 25)), [20, 19], (some (19, (24, true)))⟩, ⟨(some 27), (.faddr 4 (.t 3)),
  [19], (some (19, (24, true)))⟩, ⟨(some 28), (.load true 8 (.t 27)), [22, 19], (some (19, (24, true)))⟩, ⟨(some 29), (.call 15 [(.t 26), (.t 28)]), [21, 23, 19, 19], (some (19, (24, true)))⟩,
  ⟨(some 30), (.pick (.t 24) (.t 29) (.k (.one (.d (.bool false))))), [19, 24], none⟩, ⟨(some 4), (.mov (.t 30)), [25, 24, 0, 1, 2, 3, 4, 5, 6, 7, 8, 9, 10, 11, 12, 13, 14, 15, 16, 17, 18, 19, 20, 21,
  22, 23, 24, 25], none⟩]) .ret))⟩
theorem c40 : compFunc Try.prog [none, none] Try.f40 = some sf40 := by kernel_rfl
/-! sortilege/parser.sameType -/
def sf41 : SFunc :=
  ⟨2, [(.tmp 4)], (.seq none (.region false [⟨(some 2), (.box [(.int .i64), (.lst 2)] (.t 0)), [], none⟩, ⟨(some 3), (.box [(.int .i64), (.lst 2)] (.t 1)), [], none⟩, ⟨(some 4),
  (.mov (.k (.one (.d (.bool false))))), [], none⟩]) (.seq none (.region false [⟨(some 5), (.faddr 0 (.t 2)), [], none⟩, ⟨(some 6), (.load false 1 (.t 5)), [0], none⟩, ⟨(some 7), (.faddr 0 (.t 3)),
  [], none⟩, ⟨(some 8), (.load false 1 (.t 7)), [2], none⟩, ⟨(some 9), (.ibin .i64 .eql (.t 6) (.t 8)), [1, 3], none⟩, ⟨(some 10), (.mov (.t 9)), [4], none⟩, ⟨(some 11), (.faddr 1 (.t 2)), [5],
  (some (5, (10, true)))⟩, ⟨(some 12), (.load false 1 (.t 11)), [6, 5], (some (5, (10, true)))⟩, ⟨(some 13), (.faddr 1 (.t 3)), [5], (some (5, (10, true)))⟩, ⟨(some 14), (.load false 1 (.t 13)), [8,
  5], (some (5, (10, true)))⟩, ⟨(some 15), (.call 71 [(.t 12), (.t 14), (.k (.one (.fn 41 [])))]), [7, 9, 5, 5], (some (5, (10, true)))⟩, ⟨(some 16),
  (.pick (.t 10) (.t 15) (.k (.one (.d (.bool false))))), [5, 10], none⟩, ⟨(some 4), (.mov (.t 16)), [11, 10, 0, 1, 2, 3, 4, 5, 6, 7, 8, 9, 10, 11], none⟩]) .ret))⟩
theorem c41 : compFunc Try.prog [none, none] Try.f41 = some sf41 := by kernel_rfl
/-! sortilege/sortilegeref06.sameFields -/
def j42_2 : SCode :=
  (.region false [⟨(some 15), (.mov (.t 5)), [], none⟩, ⟨(some 16), (.ibin .i64 .add (.t 15) (.k (.one (.d (.int .i64 1))))), [0], none⟩, ⟨(some 5), (.mov (.t 16)), [1, 0, 1], none⟩])
def j42_1 : SCode :=
  (.seq (some [0, 1, 5]) (.block 1 (.seq none (.region true [⟨(some 17), (.mov (.t 0)), [], none⟩, ⟨(some 18), (.mov (.t 5)), [], none⟩, ⟨(some 19), (.iaddr 5 (.t 17) (.t 18)), [0, 1], none⟩,
  ⟨(some 20), (.faddr 0 (.t 19)), [2], none⟩, ⟨(some 21), (.load false 1 (.t 20)), [3], none⟩, ⟨(some 22), (.mov (.t 1)), [], none⟩, ⟨(some 23), (.mov (.t 5)), [], none⟩, ⟨(some 24),
  (.iaddr 5 (.t 22) (.t 23)), [5, 6], none⟩, ⟨(some 25), (.faddr 0 (.t 24)), [7], none⟩, ⟨(some 26), (.load false 1 (.t 25)), [8], none⟩, ⟨(some 27), (.sbin .neq (.t 21) (.t 26)), [4, 9], none⟩,
  ⟨(some 28), (.mov (.t 27)), [10], none⟩, ⟨(some 29), (.mov (.t 0)), [11], (some (11, (28, false)))⟩, ⟨(some 30), (.mov (.t 5)), [11], (some (11, (28, false)))⟩, ⟨(some 31),
  (.iaddr 5 (.t 29) (.t 30)), [12, 13, 11], (some (11, (28, false)))⟩, ⟨(some 32), (.faddr 1 (.t 31)), [14, 11], (some (11, (28, false)))⟩, ⟨(some 33), (.load true 2 (.t 32)), [15, 11], (some (11,
  (28, false)))⟩, ⟨(some 34), (.mov (.t 1)), [11], (some (11, (28, false)))⟩, ⟨(some 35), (.mov (.t 5)), [11], (some (11, (28, false)))⟩, ⟨(some 36), (.iaddr 5 (.t 34) (.t 35)), [17, 18, 11],
  (some (11, (28, false)))⟩, ⟨(some 37), (.faddr 1 (.t 36)), [19, 11], (some (11, (28, false)))⟩, ⟨(some 38), (.load true 2 (.t 37)), [20, 11], (some (11, (28, false)))⟩, ⟨(some 39),
  (.call 43 [(.t 33), (.t 38)]), [16, 21, 11, 11], (some (11, (28, false)))⟩, ⟨(some 40), (.inot (.t 39)), [22, 11], (some (11, (28, false)))⟩, ⟨(some 41),
  (.pick (.t 28) (.k (.one (.d (.bool true)))) (.t 40)), [11, 23], none⟩]) (.cond (.t 41) (.seq none (.region false [⟨(some 4), (.mov (.k (.one (.d (.bool false))))), [], none⟩]) .ret) .skip))) j42_2)
def lb42_0 : SCode :=
  (.seq (some [0, 1, 5]) (.seq none (.region false [⟨(some 11), (.mov (.t 5)), [], none⟩, ⟨(some 12), (.mov (.t 0)), [], none⟩, ⟨(some 13), (.len false (.t 12)), [1], none⟩, ⟨(some 14),
  (.ibin .i64 .lss (.t 11) (.t 13)), [0, 2], none⟩]) (.cond (.t 14) .skip (.exit 0))) j42_1)
def j42_3 : SCode :=
  (.seq none (.region false [⟨(some 4), (.mov (.k (.one (.d (.bool true))))), [], none⟩]) .ret)
def j42_0 : SCode :=
  (.seq (some []) (.seq none (.region false [⟨(some 5), (.mov (.k (.one (.d (.int .i64 0))))), [], none⟩]) (.block 0 (.loop [0, 1, 5] lb42_0))) j42_3)
def sf42 : SFunc :=
  ⟨2, [(.tmp 4)], (.seq none (.region false [⟨(some 4), (.mov (.k (.one (.d (.bool false))))), [], none⟩]) (.seq (some [0, 1]) (.seq none (.region false [⟨(some 6), (.mov (.t 0)), [], none⟩, ⟨(some 7),
  (.len false (.t 6)), [0], none⟩, ⟨(some 8), (.mov (.t 1)), [], none⟩, ⟨(some 9), (.len false (.t 8)), [2], none⟩, ⟨(some 10), (.ibin .i64 .neq (.t 7) (.t 9)), [1, 3],
  none⟩]) (.cond (.t 10) (.seq none (.region false [⟨(some 4), (.mov (.k (.one (.d (.bool false))))), [], none⟩]) .ret) .skip)) j42_0))⟩
theorem c42 : compFunc Try.prog [none, some [0, 1], none, none, some [], none, some [0, 1, 5], some [0, 1, 5], none, some [0, 1, 5], none, none, none] Try.f42 = some sf42 := by kernel_rfl
/-! sortilege/sortilegeref03.TypeSame -/
def j43_2 : SCode :=
  (.region false [⟨(some 25), (.mov (.t 5)), [], none⟩, ⟨(some 26), (.ibin .i64 .add (.t 25) (.k (.one (.d (.int .i64 1))))), [0], none⟩, ⟨(some 5), (.mov (.t 26)), [1, 0, 1], none⟩])
def j43_1 : SCode :=
  (.seq (some [2, 3, 5]) (.block 1 (.seq none (.region true [⟨(some 27), (.faddr 1 (.t 2)), [], none⟩, ⟨(some 28), (.load false 1 (.t 27)), [0], none⟩, ⟨(some 29), (.mov (.t 5)), [], none⟩, ⟨(some 30),
  (.iaddr 2 (.t 28) (.t 29)), [1, 2], none⟩, ⟨(some 31), (.load true 2 (.t 30)), [3], none⟩, ⟨(some 32), (.faddr 1 (.t 3)), [], none⟩, ⟨(some 33), (.load false 1 (.t 32)), [5], none⟩, ⟨(some 34),
  (.mov (.t 5)), [], none⟩, ⟨(some 35), (.iaddr 2 (.t 33) (.t 34)), [6, 7], none⟩, ⟨(some 36), (.load true 2 (.t 35)), [8], none⟩, ⟨(some 37), (.call 43 [(.t 31), (.t 36)]), [4, 9], none⟩, ⟨(some 38),
  (.inot (.t 37)), [10], none⟩]) (.cond (.t 38) (.seq none (.region false [⟨(some 4), (.mov (.k (.one (.d (.bool false))))), [], none⟩]) .ret) .skip))) j43_2)
def lb43_0 : SCode :=
  (.seq (some [2, 3, 5]) (.seq none (.region false [⟨(some 20), (.mov (.t 5)), [], none⟩, ⟨(some 21), (.faddr 1 (.t 2)), [], none⟩, ⟨(some 22), (.load false 1 (.t 21)), [1], none⟩, ⟨(some 23),
  (.len false (.t 22)), [2], none⟩, ⟨(some 24), (.ibin .i64 .lss (.t 20) (.t 23)), [0, 3], none⟩]) (.cond (.t 24) .skip (.exit 0))) j43_1)
def j43_3 : SCode :=
  (.seq none (.region false [⟨(some 4), (.mov (.k (.one (.d (.bool true))))), [], none⟩]) .ret)
def j43_0 : SCode :=
  (.seq (some []) (.seq none (.region false [⟨(some 5), (.mov (.k (.one (.d (.int .i64 0))))), [], none⟩]) (.block 0 (.loop [2, 3, 5] lb43_0))) j43_3)
def sf43 : SFunc :=
  ⟨2, [(.tmp 4)], (.seq none (.region false [⟨(some 2), (.box [(.int .i64), (.lst 2)] (.t 0)), [], none⟩, ⟨(some 3), (.box [(.int .i64), (.lst 2)] (.t 1)), [], none⟩, ⟨(some 4),
  (.mov (.k (.one (.d (.bool false))))), [], none⟩]) (.seq (some [2, 3]) (.seq none (.region false [⟨(some 6), (.faddr 0 (.t 2)), [], none⟩, ⟨(some 7), (.load false 1 (.t 6)), [0], none⟩, ⟨(some 8),
  (.faddr 0 (.t 3)), [], none⟩, ⟨(some 9), (.load false 1 (.t 8)), [2], none⟩, ⟨(some 10), (.ibin .i64 .neq (.t 7) (.t 9)), [1, 3], none⟩, ⟨(some 11), (.mov (.t 10)), [4], none⟩, ⟨(some 12),
  (.faddr 1 (.t 2)), [5], (some (5, (11, false)))⟩, ⟨(some 13), (.load false 1 (.t 12)), [6, 5], (some (5, (11, false)))⟩, ⟨(some 14), (.len false (.t 13)), [7, 5], (some (5, (11, false)))⟩,
  ⟨(some 15), (.faddr 1 (.t 3)), [5], (some (5, (11, false)))⟩, ⟨(some 16), (.load false 1 (.t 15)), [9, 5], (some (5, (11, false)))⟩, ⟨(some 17), (.len false (.t 16)), [10, 5], (some (5, (11,
  false)))⟩, ⟨(some 18), (.ibin .i64 .neq (.t 14) (.t 17)), [8, 11, 5], (some (5, (11, false)))⟩, ⟨(some 19), (.pick (.t 11) (.k (.one (.d (.bool true)))) (.t 18)), [5, 12],
  none⟩]) (.cond (.t 19) (.seq none (.region false [⟨(some 4), (.mov (.k (.one (.d (.bool false))))), [], none⟩]) .ret) .skip)) j43_0))⟩
theorem c43 : compFunc Try.prog [none, some [2, 3], none, none, some [], none, some [2, 3, 5], some [2, 3, 5], none, some [2, 3, 5], none, none, none] Try.f43 = some sf43 := by kernel_rfl
/-! sortilege/parser.Program$1 -/
def sf44 : SFunc :=
  ⟨2, [], (.region false [⟨(some 3), (.mov (.t 0)), [], none⟩, ⟨(some 4), (.call 45 [(.t 3)]), [0], none⟩, ⟨none, (.store 10 (.t 1) (.t 4)), [1, 1, 0, 1], none⟩])⟩
theorem c44 : compFunc Try.prog [] Try.f44 = some sf44 := by kernel_rfl
/-! (*sortilege/parser.reader).program -/
def j45_0 : SCode :=
  (.block 1 (.seq none (.region true [⟨(some 6), (.faddr 0 (.t 3)), [], none⟩, ⟨(some 7), (.load false 1 (.t 6)), [0], none⟩, ⟨(some 8), (.mov (.t 0)), [], none⟩, ⟨(some 9), (.call 72 [(.t 8)]), [2],
  none⟩, ⟨(some 10), (.lit 74 5 [(.t 9)]), [3], none⟩, ⟨(some 11), (.app 74 5 64 (.t 7) (.t 10)), [1, 4, 3], none⟩, ⟨(some 12), (.faddr 0 (.t 3)), [0, 1, 2, 3, 4, 5], none⟩, ⟨none,
  (.store 1 (.t 12) (.t 11)), [6, 5, 5, 0, 1, 2, 3, 4, 5], none⟩]) (.region false [⟨(some 13), (.mov (.t 0)), [], none⟩, ⟨(some 14), (.call 54 [(.t 13), (.k (.one (.d (.str ⟨#[59]⟩))))]), [0],
  none⟩])))
def lb45_0 : SCode :=
  (.seq (some [0, 2, 3]) (.seq none (.region false [⟨(some 4), (.mov (.t 0)), [], none⟩, ⟨(some 5), (.call 51 [(.t 4), (.k (.one (.d (.str ⟨#[105, 110, 112, 117, 116]⟩))))]), [0],
  none⟩]) (.cond (.t 5) .skip (.exit 0))) j45_0)
def j45_2 : SCode :=
  (.block 3 (.region true [⟨(some 17), (.faddr 1 (.t 3)), [], none⟩, ⟨(some 18), (.load false 1 (.t 17)), [0], none⟩, ⟨(some 19), (.mov (.t 0)), [], none⟩, ⟨(some 20), (.call 73 [(.t 19)]), [2], none⟩,
  ⟨(some 21), (.lit 57 14 [(.t 20)]), [3], none⟩, ⟨(some 22), (.app 57 14 208 (.t 18) (.t 21)), [1, 4, 3], none⟩, ⟨(some 23), (.faddr 1 (.t 3)), [0, 1, 2, 3, 4, 5], none⟩, ⟨none,
  (.store 1 (.t 23) (.t 22)), [6, 5, 5, 0, 1, 2, 3, 4, 5], none⟩]))
def lb45_1 : SCode :=
  (.seq (some [0, 2, 3]) (.seq none (.region false [⟨(some 15), (.mov (.t 0)), [], none⟩, ⟨(some 16), (.call 51 [(.t 15), (.k (.one (.d (.str ⟨#[102, 117, 110]⟩))))]), [0],
  none⟩]) (.cond (.t 16) .skip (.exit 2))) j45_2)
def j45_3 : SCode :=
  (.seq none (.region false [⟨(some 24), (.mov (.t 0)), [], none⟩, ⟨(some 25), (.call 24 [(.t 24)]), [0], none⟩, ⟨(some 26), (.faddr 2 (.t 3)), [0, 1], none⟩, ⟨none, (.store 8 (.t 26) (.t 25)), [2, 1,
  1, 0, 1], none⟩]) (.seq none (.region false [⟨(some 27), (.load true 10 (.t 3)), [], none⟩, ⟨none, (.store 10 (.t 2) (.t 27)), [0, 0], none⟩]) .ret))
def j45_1 : SCode :=
  (.seq (some [0, 2, 3]) (.block 2 (.loop [0, 2, 3] lb45_1)) j45_3)
def sf45 : SFunc :=
  ⟨1, [(.cell true 10 2)], (.seq none (.region false [⟨(some 2), (.alloc [(.lst 5), (.lst 14), (.int .i64), (.int .i64), .str, (.lst 1), (.lst 1), (.lst 8), (.int .i64), (.int .i64)] [(.nilL 5),
  (.nilL 14), (.d (.int .i64 0)), (.d (.int .i64 0)), (.d (.str ⟨#[]⟩)), (.nilL 1), (.nilL 1), (.nilL 8), (.d (.int .i64 0)), (.d (.int .i64 0))]), [], none⟩]) (.seq none (.region false [⟨(some 3),
  (.alloc [(.lst 5), (.lst 14), (.int .i64), (.int .i64), .str, (.lst 1), (.lst 1), (.lst 8), (.int .i64), (.int .i64)] [(.nilL 5), (.nilL 14), (.d (.int .i64 0)), (.d (.int .i64 0)),
  (.d (.str ⟨#[]⟩)), (.nilL 1), (.nilL 1), (.nilL 8), (.d (.int .i64 0)), (.d (.int .i64 0))]), [], none⟩]) (.seq (some [0, 2, 3]) (.block 0 (.loop [0, 2, 3] lb45_0)) j45_1)))⟩
theorem c45 : compFunc Try.prog [none, none, some [0, 2, 3], some [0, 2, 3], some [0, 2, 3], none, none, some [0, 2, 3], some [0, 2, 3], some [0, 2, 3], none, none, none] Try.f45 = some sf45 := by kernel_rfl
/-! sortilege/parser.limits -/
def j46_1 : SCode :=
  (.region false [⟨(some 33), (.ibin .i64 .add (.t 17) (.k (.one (.d (.int .i64 1))))), [], none⟩, ⟨(some 17), (.mov (.t 33)), [0], none⟩])
def j46_0 : SCode :=
  (.seq (some [1, 2, 3, 15, 16, 17]) (.block 1 (.seq none (.region false [⟨(some 19), (.iaddr 5 (.t 15) (.t 17)), [], none⟩, ⟨(some 20), (.load true 5 (.t 19)), [0], none⟩, ⟨(some 5), (.alloc [.str,
  (.int .i64), (.lst 2), (.int .i64), (.int .i64)] [(.d (.str ⟨#[]⟩)), (.d (.int .i64 0)), (.nilL 2), (.d (.int .i64 0)), (.d (.int .i64 0))]), [], none⟩, ⟨none, (.store 5 (.t 5) (.t 20)), [2, 1, 0,
  1, 2], none⟩]) (.seq none (.region false [⟨(some 21), (.mov (.t 3)), [], none⟩, ⟨(some 22), (.faddr 1 (.t 5)), [], none⟩, ⟨(some 23), (.load true 2 (.t 22)), [1], none⟩, ⟨(some 24),
  (.faddr 3 (.t 5)), [], none⟩, ⟨(some 25), (.load false 1 (.t 24)), [3], none⟩, ⟨(some 26), (.faddr 4 (.t 5)), [], none⟩, ⟨(some 27), (.load false 1 (.t 26)), [5], none⟩, ⟨(some 28),
  (.callv (.t 21) [(.t 23), (.t 25), (.t 27)]), [0, 2, 4, 6], none⟩, ⟨(some 6), (.alloc [(.int .i64), .str, (.int .i64), (.int .i64)] [(.d (.int .i64 0)), (.d (.str ⟨#[]⟩)), (.d (.int .i64 0)),
  (.d (.int .i64 0))]), [], none⟩, ⟨none, (.store 4 (.t 6) (.t 28)), [8, 7, 7, 0, 1, 2, 3, 4, 5, 6, 7, 8], none⟩]) (.seq none (.region false [⟨(some 29), (.faddr 0 (.t 6)), [], none⟩, ⟨(some 30),
  (.load false 1 (.t 29)), [0], none⟩, ⟨(some 31), (.ibin .i64 .neq (.t 30) (.k (.one (.d (.int .i64 0))))), [1], none⟩]) (.cond (.t 31) (.seq none (.region false [⟨(some 32), (.load true 4 (.t 6)),
  [], none⟩, ⟨none, (.store 4 (.t 2) (.t 32)), [0, 0], none⟩]) .ret) .skip))))) j46_1)
def lb46_0 : SCode :=
  (.seq none (.region false [⟨(some 18), (.ibin .i64 .lss (.t 17) (.t 16)), [], none⟩]) (.seq (some [1, 2, 3, 15, 16, 17]) (.cond (.t 18) .skip (.exit 0)) j46_0))
def j46_5 : SCode :=
  (.region false [⟨(some 60), (.ibin .i64 .add (.t 44) (.k (.one (.d (.int .i64 1))))), [], none⟩, ⟨(some 44), (.mov (.t 60)), [0], none⟩])
def j46_4 : SCode :=
  (.seq (some [1, 2, 3, 8, 35, 36, 37, 42, 43, 44]) (.block 5 (.seq none (.region false [⟨(some 46), (.iaddr 5 (.t 42) (.t 44)), [], none⟩, ⟨(some 47), (.load true 5 (.t 46)), [0], none⟩, ⟨(some 10),
  (.alloc [.str, (.int .i64), (.lst 2), (.int .i64), (.int .i64)] [(.d (.str ⟨#[]⟩)), (.d (.int .i64 0)), (.nilL 2), (.d (.int .i64 0)), (.d (.int .i64 0))]), [], none⟩, ⟨none,
  (.store 5 (.t 10) (.t 47)), [2, 1, 0, 1, 2], none⟩]) (.seq none (.region false [⟨(some 48), (.mov (.t 3)), [], none⟩, ⟨(some 49), (.faddr 1 (.t 10)), [], none⟩, ⟨(some 50), (.load true 2 (.t 49)),
  [1], none⟩, ⟨(some 51), (.faddr 3 (.t 10)), [], none⟩, ⟨(some 52), (.load false 1 (.t 51)), [3], none⟩, ⟨(some 53), (.faddr 4 (.t 10)), [], none⟩, ⟨(some 54), (.load false 1 (.t 53)), [5], none⟩,
  ⟨(some 55), (.callv (.t 48) [(.t 50), (.t 52), (.t 54)]), [0, 2, 4, 6], none⟩, ⟨(some 11), (.alloc [(.int .i64), .str, (.int .i64), (.int .i64)] [(.d (.int .i64 0)), (.d (.str ⟨#[]⟩)),
  (.d (.int .i64 0)), (.d (.int .i64 0))]), [], none⟩, ⟨none, (.store 4 (.t 11) (.t 55)), [8, 7, 7, 0, 1, 2, 3, 4, 5, 6, 7, 8], none⟩]) (.seq none (.region false [⟨(some 56), (.faddr 0 (.t 11)), [],
  none⟩, ⟨(some 57), (.load false 1 (.t 56)), [0], none⟩, ⟨(some 58), (.ibin .i64 .neq (.t 57) (.k (.one (.d (.int .i64 0))))), [1], none⟩]) (.cond (.t 58) (.seq none (.region false [⟨(some 59),
  (.load true 4 (.t 11)), [], none⟩, ⟨none, (.store 4 (.t 2) (.t 59)), [0, 0], none⟩]) .ret) .skip))))) j46_5)
def lb46_2 : SCode :=
  (.seq none (.region false [⟨(some 45), (.ibin .i64 .lss (.t 44) (.t 43)), [], none⟩]) (.seq (some [1, 2, 3, 8, 35, 36, 37, 42, 43, 44]) (.cond (.t 45) .skip (.exit 4)) j46_4))
def j46_7 : SCode :=
  (.seq none (.region false [⟨(some 73), (.faddr 4 (.t 8)), [], none⟩, ⟨(some 74), (.load true 8 (.t 73)), [0], none⟩, ⟨(some 75), (.call 25 [(.t 74)]), [1], none⟩, ⟨(some 13), (.alloc [(.int .i64),
  .str, (.int .i64), (.int .i64)] [(.d (.int .i64 0)), (.d (.str ⟨#[]⟩)), (.d (.int .i64 0)), (.d (.int .i64 0))]), [], none⟩, ⟨none, (.store 4 (.t 13) (.t 75)), [3, 2, 2, 0, 1, 2, 3],
  none⟩]) (.seq none (.region false [⟨(some 76), (.faddr 0 (.t 13)), [], none⟩, ⟨(some 77), (.load false 1 (.t 76)), [0], none⟩, ⟨(some 78), (.ibin .i64 .neq (.t 77) (.k (.one (.d (.int .i64 0))))),
  [1], none⟩]) (.cond (.t 78) (.seq none (.region false [⟨(some 79), (.load true 4 (.t 13)), [], none⟩, ⟨none, (.store 4 (.t 2) (.t 79)), [0, 0], none⟩]) .ret) .skip)))
def j46_6 : SCode :=
  (.seq (some [1, 2, 3, 8, 35, 36, 37]) (.seq none (.region false [⟨(some 61), (.mov (.t 3)), [], none⟩, ⟨(some 62), (.faddr 2 (.t 8)), [], none⟩, ⟨(some 63), (.load true 2 (.t 62)), [1], none⟩,
  ⟨(some 64), (.faddr 12 (.t 8)), [], none⟩, ⟨(some 65), (.load false 1 (.t 64)), [3], none⟩, ⟨(some 66), (.faddr 13 (.t 8)), [], none⟩, ⟨(some 67), (.load false 1 (.t 66)), [5], none⟩, ⟨(some 68),
  (.callv (.t 61) [(.t 63), (.t 65), (.t 67)]), [0, 2, 4, 6], none⟩, ⟨(some 12), (.alloc [(.int .i64), .str, (.int .i64), (.int .i64)] [(.d (.int .i64 0)), (.d (.str ⟨#[]⟩)), (.d (.int .i64 0)),
  (.d (.int .i64 0))]), [], none⟩, ⟨none, (.store 4 (.t 12) (.t 68)), [8, 7, 7, 0, 1, 2, 3, 4, 5, 6, 7, 8], none⟩]) (.seq none (.region false [⟨(some 69), (.faddr 0 (.t 12)), [], none⟩, ⟨(some 70),
  (.load false 1 (.t 69)), [0], none⟩, ⟨(some 71), (.ibin .i64 .neq (.t 70) (.k (.one (.d (.int .i64 0))))), [1], none⟩]) (.cond (.t 71) (.seq none (.region false [⟨(some 72), (.load true 4 (.t 12)),
  [], none⟩, ⟨none, (.store 4 (.t 2) (.t 72)), [0, 0], none⟩]) .ret) .skip))) j46_7)
def j46_8 : SCode :=
  (.region false [⟨(some 80), (.ibin .i64 .add (.t 37) (.k (.one (.d (.int .i64 1))))), [], none⟩, ⟨(some 37), (.mov (.t 80)), [0], none⟩])
def j46_3 : SCode :=
  (.seq (some [1, 2, 3, 35, 36, 37]) (.block 3 (.seq none (.region false [⟨(some 39), (.iaddr 14 (.t 35) (.t 37)), [], none⟩, ⟨(some 40), (.load true 14 (.t 39)), [0], none⟩, ⟨(some 8), (.alloc [.str,
  (.lst 5), (.int .i64), (.lst 2), (.int .i64), (.int .i64), .str, (.lst 1), (.lst 1), (.lst 8), (.int .i64), (.int .i64), (.int .i64), (.int .i64)] [(.d (.str ⟨#[]⟩)), (.nilL 5), (.d (.int .i64 0)),
  (.nilL 2), (.d (.int .i64 0)), (.d (.int .i64 0)), (.d (.str ⟨#[]⟩)), (.nilL 1), (.nilL 1), (.nilL 8), (.d (.int .i64 0)), (.d (.int .i64 0)), (.d (.int .i64 0)), (.d (.int .i64 0))]), [], none⟩,
  ⟨none, (.store 14 (.t 8) (.t 40)), [2, 1, 0, 1, 2], none⟩]) (.seq (some [1, 2, 3, 8, 35, 36, 37]) (.seq none (.region false [⟨(some 41), (.faddr 1 (.t 8)), [], none⟩, ⟨(some 42),
  (.load false 1 (.t 41)), [0], none⟩, ⟨(some 43), (.len false (.t 42)), [1], none⟩, ⟨(some 44), (.mov (.k (.one (.d (.int .i64 0))))), [], none⟩]) (.block 4 (.loop [1, 2, 3, 8, 35, 36, 37, 42, 43,
  44] lb46_2))) j46_6))) j46_8)
def lb46_1 : SCode :=
  (.seq none (.region false [⟨(some 38), (.ibin .i64 .lss (.t 37) (.t 36)), [], none⟩]) (.seq (some [1, 2, 3, 35, 36, 37]) (.cond (.t 38) .skip (.exit 2)) j46_3))
def j46_9 : SCode :=
  (.seq none (.region false [⟨(some 81), (.faddr 2 (.t 1)), [], none⟩, ⟨(some 82), (.load true 8 (.t 81)), [0], none⟩, ⟨(some 83), (.call 25 [(.t 82)]), [1], none⟩, ⟨none, (.store 4 (.t 2) (.t 83)), [2,
  2, 0, 1, 2], none⟩]) .ret)
def j46_2 : SCode :=
  (.seq (some [1, 2]) (.seq none (.region false [⟨(some 34), (.faddr 1 (.t 1)), [], none⟩, ⟨(some 35), (.load false 1 (.t 34)), [0], none⟩, ⟨(some 36), (.len false (.t 35)), [1], none⟩, ⟨(some 37),
  (.mov (.k (.one (.d (.int .i64 0))))), [], none⟩]) (.block 2 (.loop [1, 2, 3, 35, 36, 37] lb46_1))) j46_9)
def sf46 : SFunc :=
  ⟨1, [(.cell true 4 2)], (.seq none (.region false [⟨(some 1), (.box [(.lst 5), (.lst 14), (.int .i64), (.int .i64), .str, (.lst 1), (.lst 1), (.lst 8), (.int .i64), (.int .i64)] (.t 0)), [], none⟩,
  ⟨(some 2), (.alloc [(.int .i64), .str, (.int .i64), (.int .i64)] [(.d (.int .i64 0)), (.d (.str ⟨#[]⟩)), (.d (.int .i64 0)), (.d (.int .i64 0))]), [], none⟩]) (.seq none (.region false [⟨(some 3),
  (.mov (.k (.one (.fn 74 [])))), [], none⟩]) (.seq (some [1, 2, 3]) (.seq none (.region false [⟨(some 14), (.faddr 0 (.t 1)), [], none⟩, ⟨(some 15), (.load false 1 (.t 14)), [0], none⟩, ⟨(some 16),
  (.len false (.t 15)), [1], none⟩, ⟨(some 17), (.mov (.k (.one (.d (.int .i64 0))))), [], none⟩]) (.block 0 (.loop [1, 2, 3, 15, 16, 17] lb46_0))) j46_2)))⟩
theorem c46 : compFunc Try.prog [none, none, some [1, 2, 3], none, some [1, 2, 3, 15, 16, 17], none, some [1, 2, 3, 15, 16, 17], some [1, 2, 3, 15, 16, 17], none, none, none, none, some [1, 2], none, some [1, 2, 3, 35, 36, 37], none, some [1, 2, 3, 35, 36, 37], some [1, 2, 3, 35, 36, 37], none, some [1, 2, 3, 8, 35, 36, 37], none, some [1, 2, 3, 8, 35, 36, 37, 42, 43, 44], none, some [1, 2, 3, 8, 35, 36, 37, 42, 43, 44], some [1, 2, 3, 8, 35, 36, 37, 42, 43, 44], none, none, none, none, some [1, 2, 3, 8, 35, 36, 37], none, none, none, none, none, none, none] Try.f46 = some sf46 := by kernel_rfl
/-! sortilege/lexer.one -/
def j47_0 : SCode :=
  (.block 2 (.region false [⟨(some 33), (.mov (.t 4)), [], none⟩, ⟨(some 34), (.ibin .i64 .add (.t 33) (.k (.one (.d (.int .i64 1))))), [0], none⟩, ⟨(some 4), (.mov (.t 34)), [1, 0, 1], none⟩]))
def lb47_0 : SCode :=
  (.seq (some [0, 2, 4]) (.seq none (.region false [⟨(some 11), (.mov (.t 4)), [], none⟩, ⟨(some 12), (.mov (.t 0)), [], none⟩, ⟨(some 13), (.len true (.t 12)), [1], none⟩, ⟨(some 14),
  (.ibin .i64 .lss (.t 11) (.t 13)), [0, 2], none⟩, ⟨(some 15), (.mov (.t 14)), [3], none⟩, ⟨(some 16), (.mov (.t 0)), [4], (some (4, (15, true)))⟩, ⟨(some 17), (.mov (.t 4)), [4], (some (4, (15,
  true)))⟩, ⟨(some 18), (.chr (.t 16) (.t 17)), [5, 6, 4], (some (4, (15, true)))⟩, ⟨(some 19), (.call 76 [(.t 18)]), [7, 4, 4], (some (4, (15, true)))⟩, ⟨(some 20), (.mov (.t 19)), [8, 8, 4],
  (some (4, (15, true)))⟩, ⟨(some 21), (.mov (.t 0)), [9], (some (9, (20, false)))⟩, ⟨(some 22), (.mov (.t 4)), [9], (some (9, (20, false)))⟩, ⟨(some 23), (.chr (.t 21) (.t 22)), [10, 11, 9],
  (some (9, (20, false)))⟩, ⟨(some 24), (.call 77 [(.t 23)]), [12, 9, 9], (some (9, (20, false)))⟩, ⟨(some 25), (.pick (.t 20) (.k (.one (.d (.bool true)))) (.t 24)), [9, 13, 4], (some (4, (15,
  true)))⟩, ⟨(some 26), (.mov (.t 25)), [14, 13, 4], (some (4, (15, true)))⟩, ⟨(some 27), (.mov (.t 0)), [15], (some (15, (26, false)))⟩, ⟨(some 28), (.mov (.t 4)), [15], (some (15, (26, false)))⟩,
  ⟨(some 29), (.chr (.t 27) (.t 28)), [16, 17, 15], (some (15, (26, false)))⟩, ⟨(some 30), (.ibin .u8 .eql (.t 29) (.k (.one (.d (.int .u8 95))))), [18, 15], (some (15, (26, false)))⟩, ⟨(some 31),
  (.pick (.t 26) (.k (.one (.d (.bool true)))) (.t 30)), [15, 19, 4], (some (4, (15, true)))⟩, ⟨(some 32), (.pick (.t 15) (.t 31) (.k (.one (.d (.bool false))))), [4, 20],
  none⟩]) (.cond (.t 32) .skip (.exit 1))) j47_0)
def j47_3 : SCode :=
  (.seq none (.region false [⟨(some 51), (.mov (.t 0)), [], none⟩, ⟨(some 52), (.mov (.t 4)), [], none⟩, ⟨(some 53), (.sub (.t 51) none (some (.t 52))), [0, 1], none⟩, ⟨(some 54),
  (.build [(.d (.int .i64 0)), (.d (.str ⟨#[]⟩)), (.d (.int .i64 0)), (.d (.int .i64 0)), (.d (.int .i64 0))] [(0, (1, (.k (.one (.d (.int .i64 1)))))), (1, (1, (.t 53)))]), [2], none⟩, ⟨none,
  (.store 5 (.t 2) (.t 54)), [3, 0, 1, 2, 3], none⟩, ⟨(some 3), (.mov (.k (.one (.d (.int .i64 0))))), [4, 0, 1, 2, 3, 4], none⟩]) .ret)
def j47_2 : SCode :=
  (.seq (some [0, 2, 4]) (.seq none (.region false [⟨(some 41), (.mov (.t 0)), [], none⟩, ⟨(some 42), (.mov (.t 4)), [], none⟩, ⟨(some 43), (.sub (.t 41) none (some (.t 42))), [0, 1], none⟩, ⟨(some 44),
  (.sbin .add (.k (.one (.d (.str ⟨#[32]⟩)))) (.t 43)), [2], none⟩, ⟨(some 45), (.sbin .add (.t 44) (.k (.one (.d (.str ⟨#[32]⟩))))), [3], none⟩, ⟨(some 46), (.call 78 [(.k (.one (.d (.str ⟨#[32, 97,
  110, 100, 32, 98, 111, 111, 108, 32, 99, 97, 115, 101, 32, 101, 108, 115, 101, 32, 102, 97, 108, 115, 101, 32, 102, 108, 105, 112, 32, 102, 117, 110, 32, 105, 102, 32, 105, 110, 32, 105, 110, 112,
  117, 116, 32, 105, 110, 116, 32, 108, 101, 116, 32, 110, 111, 116, 32, 111, 98, 115, 101, 114, 118, 101, 32, 111, 102, 32, 111, 114, 32, 112, 105, 99, 107, 32, 114, 97, 110, 103, 101, 32, 115, 99,
  111, 114, 101, 32, 116, 104, 101, 110, 32, 116, 114, 117, 101, 32]⟩)))), (.t 45)]), [4], none⟩]) (.cond (.t 46) (.seq none (.region false [⟨(some 47), (.mov (.t 0)), [], none⟩, ⟨(some 48),
  (.mov (.t 4)), [], none⟩, ⟨(some 49), (.sub (.t 47) none (some (.t 48))), [0, 1], none⟩, ⟨(some 50), (.build [(.d (.int .i64 0)), (.d (.str ⟨#[]⟩)), (.d (.int .i64 0)), (.d (.int .i64 0)),
  (.d (.int .i64 0))] [(0, (1, (.k (.one (.d (.int .i64 2)))))), (1, (1, (.t 49)))]), [2], none⟩, ⟨none, (.store 5 (.t 2) (.t 50)), [3, 0, 1, 2, 3], none⟩, ⟨(some 3),
  (.mov (.k (.one (.d (.int .i64 0))))), [4, 0, 1, 2, 3, 4], none⟩]) .ret) .skip)) j47_3)
def j47_1 : SCode :=
  (.seq (some [0, 2, 4]) (.seq none (.region false [⟨(some 35), (.mov (.t 4)), [], none⟩, ⟨(some 36), (.ibin .i64 .gtr (.t 35) (.k (.one (.d (.int .i64 24))))), [0],
  none⟩]) (.cond (.t 36) (.seq none (.region false [⟨(some 37), (.mov (.t 0)), [], none⟩, ⟨(some 38), (.mov (.t 4)), [], none⟩, ⟨(some 39), (.sub (.t 37) none (some (.t 38))), [0, 1], none⟩,
  ⟨(some 40), (.build [(.d (.int .i64 0)), (.d (.str ⟨#[]⟩)), (.d (.int .i64 0)), (.d (.int .i64 0)), (.d (.int .i64 0))] [(1, (1, (.t 39)))]), [2], none⟩, ⟨none, (.store 5 (.t 2) (.t 40)), [3, 0, 1,
  2, 3], none⟩, ⟨(some 3), (.mov (.k (.one (.d (.int .i64 2))))), [4, 0, 1, 2, 3, 4], none⟩]) .ret) .skip)) j47_2)
def j47_5 : SCode :=
  (.region false [⟨(some 69), (.mov (.t 4)), [], none⟩, ⟨(some 70), (.ibin .i64 .add (.t 69) (.k (.one (.d (.int .i64 1))))), [0], none⟩, ⟨(some 4), (.mov (.t 70)), [1, 0, 1], none⟩])
def j47_4 : SCode :=
  (.seq (some [0, 2, 4, 5]) (.block 4 (.region false [⟨(some 71), (.mov (.t 5)), [], none⟩, ⟨(some 72), (.ibin .i64 .mul (.t 71) (.k (.one (.d (.int .i64 10))))), [0], none⟩, ⟨(some 73), (.mov (.t 0)),
  [], none⟩, ⟨(some 74), (.mov (.t 4)), [], none⟩, ⟨(some 75), (.chr (.t 73) (.t 74)), [2, 3], none⟩, ⟨(some 76), (.ibin .u8 .sub (.t 75) (.k (.one (.d (.int .u8 48))))), [4], none⟩, ⟨(some 77),
  (.conv .u8 .i64 (.t 76)), [5], none⟩, ⟨(some 78), (.ibin .i64 .add (.t 72) (.t 77)), [1, 6], none⟩, ⟨(some 79), (.mnmx false (.t 78) (.k (.one (.d (.int .i64 2147483648))))), [7], none⟩, ⟨(some 5),
  (.mov (.t 79)), [8, 0, 1, 2, 3, 4, 5, 6, 7, 8], none⟩])) j47_5)
def lb47_1 : SCode :=
  (.seq (some [0, 2, 4, 5]) (.seq none (.region false [⟨(some 59), (.mov (.t 4)), [], none⟩, ⟨(some 60), (.mov (.t 0)), [], none⟩, ⟨(some 61), (.len true (.t 60)), [1], none⟩, ⟨(some 62),
  (.ibin .i64 .lss (.t 59) (.t 61)), [0, 2], none⟩, ⟨(some 63), (.mov (.t 62)), [3], none⟩, ⟨(some 64), (.mov (.t 0)), [4], (some (4, (63, true)))⟩, ⟨(some 65), (.mov (.t 4)), [4], (some (4, (63,
  true)))⟩, ⟨(some 66), (.chr (.t 64) (.t 65)), [5, 6, 4], (some (4, (63, true)))⟩, ⟨(some 67), (.call 77 [(.t 66)]), [7, 4, 4], (some (4, (63, true)))⟩, ⟨(some 68),
  (.pick (.t 63) (.t 67) (.k (.one (.d (.bool false))))), [4, 8], none⟩]) (.cond (.t 68) .skip (.exit 3))) j47_4)
def j47_7 : SCode :=
  (.seq none (.region false [⟨(some 86), (.mov (.t 0)), [], none⟩, ⟨(some 87), (.mov (.t 4)), [], none⟩, ⟨(some 88), (.sub (.t 86) none (some (.t 87))), [0, 1], none⟩, ⟨(some 89), (.mov (.t 5)), [],
  none⟩, ⟨(some 90), (.build [(.d (.int .i64 0)), (.d (.str ⟨#[]⟩)), (.d (.int .i64 0)), (.d (.int .i64 0)), (.d (.int .i64 0))] [(0, (1, (.k (.one (.d (.int .i64 3)))))), (1, (1, (.t 88))), (2, (1,
  (.t 89)))]), [2, 3], none⟩, ⟨none, (.store 5 (.t 2) (.t 90)), [4, 0, 1, 2, 3, 4], none⟩, ⟨(some 3), (.mov (.k (.one (.d (.int .i64 0))))), [5, 0, 1, 2, 3, 4, 5], none⟩]) .ret)
def j47_6 : SCode :=
  (.seq (some [0, 2, 4, 5]) (.seq none (.region false [⟨(some 80), (.mov (.t 5)), [], none⟩, ⟨(some 81), (.ibin .i64 .gtr (.t 80) (.k (.one (.d (.int .i64 2147483647))))), [0],
  none⟩]) (.cond (.t 81) (.seq none (.region false [⟨(some 82), (.mov (.t 0)), [], none⟩, ⟨(some 83), (.mov (.t 4)), [], none⟩, ⟨(some 84), (.sub (.t 82) none (some (.t 83))), [0, 1], none⟩,
  ⟨(some 85), (.build [(.d (.int .i64 0)), (.d (.str ⟨#[]⟩)), (.d (.int .i64 0)), (.d (.int .i64 0)), (.d (.int .i64 0))] [(1, (1, (.t 84)))]), [2], none⟩, ⟨none, (.store 5 (.t 2) (.t 85)), [3, 0, 1,
  2, 3], none⟩, ⟨(some 3), (.mov (.k (.one (.d (.int .i64 2))))), [4, 0, 1, 2, 3, 4], none⟩]) .ret) .skip)) j47_7)
def j47_9 : SCode :=
  (.seq none (.region false [⟨(some 97), (.mov (.t 0)), [], none⟩, ⟨(some 98), (.sub (.t 97) none (some (.k (.one (.d (.int .i64 1)))))), [0], none⟩, ⟨(some 99), (.build [(.d (.int .i64 0)),
  (.d (.str ⟨#[]⟩)), (.d (.int .i64 0)), (.d (.int .i64 0)), (.d (.int .i64 0))] [(1, (1, (.t 98)))]), [1], none⟩, ⟨none, (.store 5 (.t 2) (.t 99)), [2, 0, 1, 2], none⟩, ⟨(some 3),
  (.mov (.k (.one (.d (.int .i64 10))))), [3, 0, 1, 2, 3], none⟩]) .ret)
def j47_8 : SCode :=
  (.seq (some [0, 2]) (.seq none (.region false [⟨(some 91), (.mov (.t 0)), [], none⟩, ⟨(some 92), (.call 79 [(.t 91)]), [0], none⟩, ⟨(some 6), (.mov (.t 92)), [1, 1, 0, 1],
  none⟩]) (.seq none (.region false [⟨(some 93), (.mov (.t 6)), [], none⟩, ⟨(some 94), (.sbin .neq (.t 93) (.k (.one (.d (.str ⟨#[]⟩))))), [0],
  none⟩]) (.cond (.t 94) (.seq none (.region false [⟨(some 95), (.mov (.t 6)), [], none⟩, ⟨(some 96), (.build [(.d (.int .i64 0)), (.d (.str ⟨#[]⟩)), (.d (.int .i64 0)), (.d (.int .i64 0)),
  (.d (.int .i64 0))] [(0, (1, (.k (.one (.d (.int .i64 4)))))), (1, (1, (.t 95)))]), [0], none⟩, ⟨none, (.store 5 (.t 2) (.t 96)), [1, 0, 1], none⟩, ⟨(some 3), (.mov (.k (.one (.d (.int .i64 0))))),
  [2, 0, 1, 2], none⟩]) .ret) .skip))) j47_9)
def sf47 : SFunc :=
  ⟨1, [(.cell true 5 2), (.tmp 3)], (.seq none (.region false [⟨(some 2), (.alloc [(.int .i64), .str, (.int .i64), (.int .i64), (.int .i64)] [(.d (.int .i64 0)), (.d (.str ⟨#[]⟩)), (.d (.int .i64 0)),
  (.d (.int .i64 0)), (.d (.int .i64 0))]), [], none⟩, ⟨(some 3), (.mov (.k (.one (.d (.int .i64 0))))), [], none⟩]) (.seq none (.region false [⟨(some 4), (.mov (.k (.one (.d (.int .i64 0))))), [],
  none⟩]) (.seq (some [0, 2]) (.block 0 (.seq none (.region false [⟨(some 8), (.mov (.t 0)), [], none⟩, ⟨(some 9), (.chr (.t 8) (.k (.one (.d (.int .i64 0))))), [0], none⟩, ⟨(some 10),
  (.call 76 [(.t 9)]), [1], none⟩, ⟨(some 7), (.mov (.t 10)), [2, 2], none⟩]) (.cond (.t 7) (.seq (some [0, 2, 4]) (.block 1 (.loop [0, 2, 4] lb47_0)) j47_1) (.seq none (.region false [⟨(some 56),
  (.mov (.t 0)), [], none⟩, ⟨(some 57), (.chr (.t 56) (.k (.one (.d (.int .i64 0))))), [0], none⟩, ⟨(some 58), (.call 77 [(.t 57)]), [1], none⟩, ⟨(some 55), (.mov (.t 58)), [2, 2],
  none⟩]) (.cond (.t 55) (.seq none (.region false [⟨(some 5), (.mov (.k (.one (.d (.int .i64 0))))), [], none⟩]) (.seq (some [0, 2, 4, 5]) (.block 3 (.loop [0, 2, 4,
  5] lb47_1)) j47_6)) .skip))))) j47_8)))⟩
theorem c47 : compFunc Try.prog [none, none, some [0, 2], none, some [0, 2, 4], some [0, 2, 4], some [0, 2, 4], none, some [0, 2, 4], none, none, some [0, 2, 4], none, none, none, none, none, some [0, 2, 4, 5], some [0, 2, 4, 5], some [0, 2, 4, 5], none, some [0, 2, 4, 5], some [0, 2, 4, 5], none, none, none, some [0, 2], none, none, none, none] Try.f47 = some sf47 := by kernel_rfl
/-! (*sortilege/parser.reader).token -/
def sf49 : SFunc :=
  ⟨1, [(.cell true 5 2)], (.seq none (.region false [⟨(some 2), (.alloc [(.int .i64), .str, (.int .i64), (.int .i64), (.int .i64)] [(.d (.int .i64 0)), (.d (.str ⟨#[]⟩)), (.d (.int .i64 0)),
  (.d (.int .i64 0)), (.d (.int .i64 0))]), [], none⟩]) (.seq none (.region true [⟨(some 3), (.mov (.t 0)), [], none⟩, ⟨(some 4), (.nchk (.t 3)), [0], none⟩, ⟨(some 5), (.faddr 0 (.t 4)), [1], none⟩,
  ⟨(some 6), (.load false 1 (.t 5)), [2], none⟩, ⟨(some 7), (.mov (.t 0)), [], none⟩, ⟨(some 8), (.nchk (.t 7)), [4], none⟩, ⟨(some 9), (.faddr 1 (.t 8)), [5], none⟩, ⟨(some 10),
  (.load false 1 (.t 9)), [6], none⟩, ⟨(some 11), (.iaddr 5 (.t 6) (.t 10)), [3, 7], none⟩, ⟨(some 12), (.load true 5 (.t 11)), [8], none⟩, ⟨none, (.store 5 (.t 2) (.t 12)), [9, 0, 1, 2, 3, 4, 5, 6,
  7, 8, 9], none⟩]) .ret))⟩
theorem c49 : compFunc Try.prog [none, none] Try.f49 = some sf49 := by kernel_rfl
/-! (*sortilege/parser.reader).fail -/
def sf50 : SFunc :=
  ⟨1, [], (.seq none (.region false [⟨(some 3), (.mov (.t 0)), [], none⟩, ⟨(some 4), (.call 49 [(.t 3)]), [0], none⟩, ⟨(some 2), (.alloc [(.int .i64), .str, (.int .i64), (.int .i64),
  (.int .i64)] [(.d (.int .i64 0)), (.d (.str ⟨#[]⟩)), (.d (.int .i64 0)), (.d (.int .i64 0)), (.d (.int .i64 0))]), [], none⟩, ⟨none, (.store 5 (.t 2) (.t 4)), [2, 1, 1, 0, 1, 2],
  none⟩]) (.region false [⟨(some 5), (.faddr 1 (.t 2)), [], none⟩, ⟨(some 6), (.load false 1 (.t 5)), [0], none⟩, ⟨(some 7), (.faddr 3 (.t 2)), [], none⟩, ⟨(some 8), (.load false 1 (.t 7)), [2],
  none⟩, ⟨(some 9), (.faddr 4 (.t 2)), [], none⟩, ⟨(some 10), (.load false 1 (.t 9)), [4], none⟩, ⟨(some 11), (.build [(.d (.int .i64 0)), (.d (.str ⟨#[]⟩)), (.d (.int .i64 0)),
  (.d (.int .i64 0))] [(0, (1, (.k (.one (.d (.int .i64 11)))))), (1, (1, (.t 6))), (2, (1, (.t 8))), (3, (1, (.t 10)))]), [1, 3, 5], none⟩, ⟨(some 12), (.mkI 30 (.t 11)), [6], none⟩, ⟨none,
  (.pan (.t 12)), [7], none⟩]))⟩
theorem c50 : compFunc Try.prog [none] Try.f50 = some sf50 := by kernel_rfl
/-! (*sortilege/parser.reader).take -/
def j51_0 : SCode :=
  (.seq none (.region false [⟨(some 4), (.mov (.k (.one (.d (.bool false))))), [], none⟩]) .ret)
def sf51 : SFunc :=
  ⟨2, [(.tmp 4)], (.seq none (.region false [⟨(some 4), (.mov (.k (.one (.d (.bool false))))), [], none⟩]) (.seq (some []) (.seq none (.region false [⟨(some 5), (.mov (.t 0)), [], none⟩, ⟨(some 6),
  (.mov (.t 1)), [], none⟩, ⟨(some 7), (.call 80 [(.t 5), (.t 6)]), [0, 1], none⟩]) (.cond (.t 7) (.seq none (.region false [⟨(some 8), (.mov (.t 0)), [], none⟩, ⟨(some 9), (.nchk (.t 8)), [0], none⟩,
  ⟨(some 10), (.faddr 1 (.t 9)), [1], none⟩, ⟨(some 11), (.load false 1 (.t 10)), [2], none⟩, ⟨(some 12), (.ibin .i64 .add (.t 11) (.k (.one (.d (.int .i64 1))))), [3], none⟩, ⟨(some 13),
  (.nchk (.t 8)), [0, 0, 1, 2, 3, 4], none⟩, ⟨(some 14), (.faddr 1 (.t 13)), [5, 0, 1, 2, 3, 4], none⟩, ⟨none, (.store 1 (.t 14) (.t 12)), [6, 4, 0, 1, 2, 3, 4],
  none⟩]) (.seq none (.region false [⟨(some 4), (.mov (.k (.one (.d (.bool true))))), [], none⟩]) .ret)) .skip)) j51_0))⟩
theorem c51 : compFunc Try.prog [none, some [], none, none, none, none] Try.f51 = some sf51 := by kernel_rfl
/-! sortilege/parser.begin -/
def sf52 : SFunc :=
  ⟨2, [(.cell true 8 4)], (.seq none (.region false [⟨(some 3), (.box [(.int .i64), .str, (.int .i64), (.int .i64), (.int .i64)] (.t 1)), [], none⟩, ⟨(some 4), (.alloc [(.int .i64), (.int .i64), .str,
  (.lst 1), (.lst 1), (.lst 8), (.int .i64), (.int .i64)] [(.d (.int .i64 0)), (.d (.int .i64 0)), (.d (.str ⟨#[]⟩)), (.nilL 1), (.nilL 1), (.nilL 8), (.d (.int .i64 0)), (.d (.int .i64 0))]), [],
  none⟩]) (.seq none (.region false [⟨(some 5), (.mov (.t 0)), [], none⟩, ⟨(some 6), (.faddr 3 (.t 3)), [], none⟩, ⟨(some 7), (.load false 1 (.t 6)), [1], none⟩, ⟨(some 8), (.faddr 4 (.t 3)), [],
  none⟩, ⟨(some 9), (.load false 1 (.t 8)), [3], none⟩, ⟨(some 10), (.build [(.d (.int .i64 0)), (.d (.int .i64 0)), (.d (.str ⟨#[]⟩)), (.nilL 1), (.nilL 1), (.nilL 8), (.d (.int .i64 0)),
  (.d (.int .i64 0))] [(0, (1, (.t 5))), (6, (1, (.t 7))), (7, (1, (.t 9)))]), [0, 2, 4], none⟩, ⟨none, (.store 8 (.t 4) (.t 10)), [5, 0, 1, 2, 3, 4, 5], none⟩]) .ret))⟩
theorem c52 : compFunc Try.prog [none, none] Try.f52 = some sf52 := by kernel_rfl
/-! (*sortilege/parser.reader).kind -/
def j53_0 : SCode :=
  (.seq none (.region false [⟨(some 14), (.mov (.t 0)), [], none⟩, ⟨(some 15), (.nchk (.t 14)), [0], none⟩, ⟨(some 16), (.faddr 1 (.t 15)), [1], none⟩, ⟨(some 17), (.load false 1 (.t 16)), [2], none⟩,
  ⟨(some 18), (.ibin .i64 .add (.t 17) (.k (.one (.d (.int .i64 1))))), [3], none⟩, ⟨(some 19), (.nchk (.t 14)), [0, 0, 1, 2, 3, 4], none⟩, ⟨(some 20), (.faddr 1 (.t 19)), [5, 0, 1, 2, 3, 4], none⟩,
  ⟨none, (.store 1 (.t 20) (.t 18)), [6, 4, 0, 1, 2, 3, 4], none⟩]) (.seq none (.region false [⟨(some 21), (.load true 5 (.t 5)), [], none⟩, ⟨none, (.store 5 (.t 4) (.t 21)), [0, 0], none⟩]) .ret))
def sf53 : SFunc :=
  ⟨2, [(.cell true 5 4)], (.seq none (.region false [⟨(some 4), (.alloc [(.int .i64), .str, (.int .i64), (.int .i64), (.int .i64)] [(.d (.int .i64 0)), (.d (.str ⟨#[]⟩)), (.d (.int .i64 0)),
  (.d (.int .i64 0)), (.d (.int .i64 0))]), [], none⟩]) (.seq none (.region false [⟨(some 6), (.mov (.t 0)), [], none⟩, ⟨(some 7), (.call 49 [(.t 6)]), [0], none⟩, ⟨(some 5), (.alloc [(.int .i64),
  .str, (.int .i64), (.int .i64), (.int .i64)] [(.d (.int .i64 0)), (.d (.str ⟨#[]⟩)), (.d (.int .i64 0)), (.d (.int .i64 0)), (.d (.int .i64 0))]), [], none⟩, ⟨none, (.store 5 (.t 5) (.t 7)), [2, 1,
  1, 0, 1, 2], none⟩]) (.seq (some [0, 4, 5]) (.seq none (.region false [⟨(some 8), (.faddr 0 (.t 5)), [], none⟩, ⟨(some 9), (.load false 1 (.t 8)), [0], none⟩, ⟨(some 10), (.mov (.t 1)), [], none⟩,
  ⟨(some 11), (.ibin .i64 .neq (.t 9) (.t 10)), [1, 2], none⟩]) (.cond (.t 11) (.region false [⟨(some 12), (.mov (.t 0)), [], none⟩, ⟨(some 13), (.call 50 [(.t 12)]), [0], none⟩]) .skip)) j53_0)))⟩
theorem c53 : compFunc Try.prog [none, none, some [0, 4, 5], none, none, none] Try.f53 = some sf53 := by kernel_rfl
/-! (*sortilege/parser.reader).want -/
def sf54 : SFunc :=
  ⟨2, [], (.seq none (.region false [⟨(some 4), (.mov (.t 0)), [], none⟩, ⟨(some 5), (.mov (.t 1)), [], none⟩, ⟨(some 6), (.call 51 [(.t 4), (.t 5)]), [0, 1], none⟩, ⟨(some 7), (.inot (.t 6)), [2],
  none⟩]) (.cond (.t 7) (.region false [⟨(some 8), (.mov (.t 0)), [], none⟩, ⟨(some 9), (.call 50 [(.t 8)]), [0], none⟩]) .skip))⟩
theorem c54 : compFunc Try.prog [none] Try.f54 = some sf54 := by kernel_rfl
/-! (*sortilege/parser.reader).share -/
def sf55 : SFunc :=
  ⟨1, [(.tmp 2)], (.seq none (.region false [⟨(some 2), (.mov (.k (.one (.nilL 1)))), [], none⟩]) (.seq none (.region false [⟨(some 4), (.mov (.t 0)), [], none⟩, ⟨(some 5), (.call 53 [(.t 4),
  (.k (.one (.d (.int .i64 3))))]), [0], none⟩, ⟨(some 6), (.field false 2 1 (.t 5)), [1], none⟩, ⟨(some 3), (.mov (.t 6)), [2, 1, 0, 1, 2], none⟩]) (.seq none (.region false [⟨(some 7),
  (.mov (.t 0)), [], none⟩, ⟨(some 8), (.call 54 [(.t 7), (.k (.one (.d (.str ⟨#[47]⟩))))]), [0], none⟩]) (.seq none (.region false [⟨(some 9), (.mov (.t 3)), [], none⟩, ⟨(some 10), (.mov (.t 0)), [],
  none⟩, ⟨(some 11), (.call 53 [(.t 10), (.k (.one (.d (.int .i64 3))))]), [1], none⟩, ⟨(some 12), (.field false 2 1 (.t 11)), [2], none⟩, ⟨(some 13), (.lit 3 1 [(.t 9), (.t 12)]), [0, 3], none⟩,
  ⟨(some 2), (.mov (.t 13)), [4, 2, 0, 1, 2, 3, 4], none⟩]) .ret))))⟩
theorem c55 : compFunc Try.prog [none, none, none, none] Try.f55 = some sf55 := by kernel_rfl
/-! (*sortilege/parser.reader).level -/
def j56_3 : SCode :=
  (.region false [⟨(some 54), (.load true 8 (.t 8)), [], none⟩, ⟨none, (.store 8 (.t 5) (.t 54)), [0, 0], none⟩])
def j56_2 : SCode :=
  (.seq none (.region true [⟨(some 41), (.load true 8 (.t 5)), [], none⟩, ⟨(some 42), (.mov (.t 0)), [], none⟩, ⟨(some 43), (.mov (.t 9)), [], none⟩, ⟨(some 44), (.call 56 [(.t 42), (.t 43)]), [1, 2],
  none⟩, ⟨(some 45), (.lit 27 8 [(.t 41), (.t 44)]), [0, 3], none⟩, ⟨(some 46), (.faddr 5 (.t 8)), [0, 1, 2, 3, 4], none⟩, ⟨none, (.store 1 (.t 46) (.t 45)), [5, 4, 3, 0, 1, 2, 3, 4],
  none⟩]) (.seq (some [0, 1, 4, 5, 8]) (.seq none (.region false [⟨(some 47), (.mov (.t 1)), [], none⟩, ⟨(some 48), (.ibin .i64 .eql (.t 47) (.k (.one (.d (.int .i64 2))))), [0], none⟩, ⟨(some 49),
  (.mov (.t 48)), [1], none⟩, ⟨(some 50), (.mov (.t 1)), [2], (some (2, (49, false)))⟩, ⟨(some 51), (.ibin .i64 .eql (.t 50) (.k (.one (.d (.int .i64 3))))), [3, 2], (some (2, (49, false)))⟩,
  ⟨(some 52), (.pick (.t 49) (.k (.one (.d (.bool true)))) (.t 51)), [2, 4], none⟩]) (.cond (.t 52) (.seq none (.region false [⟨(some 53), (.load true 8 (.t 8)), [], none⟩, ⟨none,
  (.store 8 (.t 4) (.t 53)), [0, 0], none⟩]) .ret) .skip)) j56_3))
def j56_1 : SCode :=
  (.seq none (.region false [⟨(some 26), (.mov (.t 0)), [], none⟩, ⟨(some 27), (.nchk (.t 26)), [0], none⟩, ⟨(some 28), (.faddr 1 (.t 27)), [1], none⟩, ⟨(some 29), (.load false 1 (.t 28)), [2], none⟩,
  ⟨(some 30), (.ibin .i64 .add (.t 29) (.k (.one (.d (.int .i64 1))))), [3], none⟩, ⟨(some 31), (.nchk (.t 26)), [0, 0, 1, 2, 3, 4], none⟩, ⟨(some 32), (.faddr 1 (.t 31)), [5, 0, 1, 2, 3, 4], none⟩,
  ⟨none, (.store 1 (.t 32) (.t 30)), [6, 4, 0, 1, 2, 3, 4], none⟩]) (.seq none (.region false [⟨(some 33), (.load true 5 (.t 6)), [], none⟩, ⟨(some 34), (.call 52 [(.k (.one (.d (.int .i64 7)))),
  (.t 33)]), [0], none⟩, ⟨(some 8), (.alloc [(.int .i64), (.int .i64), .str, (.lst 1), (.lst 1), (.lst 8), (.int .i64), (.int .i64)] [(.d (.int .i64 0)), (.d (.int .i64 0)), (.d (.str ⟨#[]⟩)),
  (.nilL 1), (.nilL 1), (.nilL 8), (.d (.int .i64 0)), (.d (.int .i64 0))]), [], none⟩, ⟨none, (.store 8 (.t 8) (.t 34)), [2, 1, 1, 0, 1, 2], none⟩]) (.seq none (.region false [⟨(some 35),
  (.mov (.t 7)), [], none⟩, ⟨(some 36), (.faddr 2 (.t 8)), [0], none⟩, ⟨none, (.store 1 (.t 36) (.t 35)), [1, 0, 0], none⟩]) (.seq none (.region false [⟨(some 37), (.mov (.t 1)), [], none⟩,
  ⟨(some 38), (.ibin .i64 .add (.t 37) (.k (.one (.d (.int .i64 1))))), [0], none⟩, ⟨(some 9), (.mov (.t 38)), [1, 0, 1], none⟩]) (.seq (some [0, 1, 4, 5, 8, 9]) (.seq none (.region false [⟨(some 39),
  (.mov (.t 1)), [], none⟩, ⟨(some 40), (.ibin .i64 .eql (.t 39) (.k (.one (.d (.int .i64 3))))), [0], none⟩]) (.cond (.t 40) (.region false [⟨(some 9), (.mov (.k (.one (.d (.int .i64 3))))), [],
  none⟩]) .skip)) j56_2)))))
def lb56_0 : SCode :=
  (.block 1 (.seq none (.region false [⟨(some 18), (.mov (.t 0)), [], none⟩, ⟨(some 19), (.call 49 [(.t 18)]), [0], none⟩, ⟨(some 20), (.mov (.t 0)), [], none⟩, ⟨(some 21), (.mov (.t 1)), [], none⟩,
  ⟨(some 22), (.call 82 [(.t 20), (.t 21)]), [2, 3, 1], none⟩, ⟨(some 6), (.alloc [(.int .i64), .str, (.int .i64), (.int .i64), (.int .i64)] [(.d (.int .i64 0)), (.d (.str ⟨#[]⟩)), (.d (.int .i64 0)),
  (.d (.int .i64 0)), (.d (.int .i64 0))]), [], none⟩, ⟨none, (.store 5 (.t 6) (.t 19)), [5, 1, 4, 0, 1, 5], none⟩, ⟨(some 7), (.mov (.t 22)), [4, 6, 0, 1, 2, 3, 4, 5, 6], none⟩]) (.seq (some [0, 1,
  4, 5, 6, 7]) (.seq none (.region false [⟨(some 23), (.mov (.t 7)), [], none⟩, ⟨(some 24), (.sbin .eql (.t 23) (.k (.one (.d (.str ⟨#[]⟩))))), [0],
  none⟩]) (.cond (.t 24) (.seq none (.region false [⟨(some 25), (.load true 8 (.t 5)), [], none⟩, ⟨none, (.store 8 (.t 4) (.t 25)), [0, 0], none⟩]) .ret) .skip)) j56_1)))
def j56_0 : SCode :=
  (.seq none (.region false [⟨(some 14), (.mov (.t 0)), [], none⟩, ⟨(some 15), (.mov (.t 1)), [], none⟩, ⟨(some 16), (.ibin .i64 .add (.t 15) (.k (.one (.d (.int .i64 1))))), [1], none⟩, ⟨(some 17),
  (.call 56 [(.t 14), (.t 16)]), [0, 2], none⟩, ⟨(some 5), (.alloc [(.int .i64), (.int .i64), .str, (.lst 1), (.lst 1), (.lst 8), (.int .i64), (.int .i64)] [(.d (.int .i64 0)), (.d (.int .i64 0)),
  (.d (.str ⟨#[]⟩)), (.nilL 1), (.nilL 1), (.nilL 8), (.d (.int .i64 0)), (.d (.int .i64 0))]), [], none⟩, ⟨none, (.store 8 (.t 5) (.t 17)), [4, 3, 3, 0, 1, 2, 3, 4], none⟩]) (.block 0 (.loop [0, 1,
  4, 5] lb56_0)))
def sf56 : SFunc :=
  ⟨2, [(.cell true 8 4)], (.seq none (.region false [⟨(some 4), (.alloc [(.int .i64), (.int .i64), .str, (.lst 1), (.lst 1), (.lst 8), (.int .i64), (.int .i64)] [(.d (.int .i64 0)), (.d (.int .i64 0)),
  (.d (.str ⟨#[]⟩)), (.nilL 1), (.nilL 1), (.nilL 8), (.d (.int .i64 0)), (.d (.int .i64 0))]), [], none⟩]) (.seq (some [0, 1, 4]) (.seq none (.region false [⟨(some 10), (.mov (.t 1)), [], none⟩,
  ⟨(some 11), (.ibin .i64 .eql (.t 10) (.k (.one (.d (.int .i64 6))))), [0], none⟩]) (.cond (.t 11) (.seq none (.region false [⟨(some 12), (.mov (.t 0)), [], none⟩, ⟨(some 13), (.call 81 [(.t 12)]),
  [0], none⟩, ⟨none, (.store 8 (.t 4) (.t 13)), [1, 1, 0, 1], none⟩]) .ret) .skip)) j56_0))⟩
theorem c56 : compFunc Try.prog [none, some [0, 1, 4], none, none, none, some [0, 1, 4, 5], none, some [0, 1, 4, 5, 6, 7], none, none, none, none, none, none, some [0, 1, 4, 5, 8, 9], none, none, some [0, 1, 4, 5, 8], none, none] Try.f56 = some sf56 := by kernel_rfl
/-! sortilege/parser.deep -/
def j57_2 : SCode :=
  (.region false [⟨(some 29), (.ibin .i64 .add (.t 16) (.k (.one (.d (.int .i64 1))))), [], none⟩, ⟨(some 16), (.mov (.t 29)), [0], none⟩])
def j57_1 : SCode :=
  (.seq (some [1, 4, 14, 15, 16]) (.block 1 (.seq none (.region false [⟨(some 18), (.iaddr 8 (.t 14) (.t 16)), [], none⟩, ⟨(some 19), (.load true 8 (.t 18)), [0], none⟩, ⟨(some 7), (.alloc [(.int .i64),
  (.int .i64), .str, (.lst 1), (.lst 1), (.lst 8), (.int .i64), (.int .i64)] [(.d (.int .i64 0)), (.d (.int .i64 0)), (.d (.str ⟨#[]⟩)), (.nilL 1), (.nilL 1), (.nilL 8), (.d (.int .i64 0)),
  (.d (.int .i64 0))]), [], none⟩, ⟨none, (.store 8 (.t 7) (.t 19)), [2, 1, 0, 1, 2], none⟩]) (.seq none (.region false [⟨(some 21), (.load true 8 (.t 7)), [], none⟩, ⟨(some 22), (.mov (.t 1)), [],
  none⟩, ⟨(some 23), (.ibin .i64 .sub (.t 22) (.k (.one (.d (.int .i64 1))))), [1], none⟩, ⟨(some 24), (.call 57 [(.t 21), (.t 23)]), [0, 2], none⟩, ⟨(some 20), (.mov (.t 24)), [3], none⟩, ⟨(some 25),
  (.ext (.t 20) 0), [4], none⟩, ⟨(some 26), (.ext (.t 20) 1), [4], none⟩, ⟨(some 8), (.alloc [(.int .i64), (.int .i64), .str, (.lst 1), (.lst 1), (.lst 8), (.int .i64),
  (.int .i64)] [(.d (.int .i64 0)), (.d (.int .i64 0)), (.d (.str ⟨#[]⟩)), (.nilL 1), (.nilL 1), (.nilL 8), (.d (.int .i64 0)), (.d (.int .i64 0))]), [], none⟩, ⟨none, (.store 8 (.t 8) (.t 25)), [7,
  5, 3, 0, 1, 2, 3, 4, 5, 7], none⟩, ⟨(some 9), (.mov (.t 26)), [6, 8, 0, 1, 2, 3, 4, 5, 6, 7, 8], none⟩]) (.seq none (.region false [⟨(some 27), (.mov (.t 9)), [],
  none⟩]) (.cond (.t 27) (.seq none (.region false [⟨(some 28), (.load true 8 (.t 8)), [], none⟩, ⟨none, (.store 8 (.t 4) (.t 28)), [0, 0], none⟩, ⟨(some 5), (.mov (.k (.one (.d (.bool true))))), [1,
  0, 1], none⟩]) .ret) .skip))))) j57_2)
def lb57_0 : SCode :=
  (.seq none (.region false [⟨(some 17), (.ibin .i64 .lss (.t 16) (.t 15)), [], none⟩]) (.seq (some [1, 4, 14, 15, 16]) (.cond (.t 17) .skip (.exit 0)) j57_1))
def j57_3 : SCode :=
  (.seq none (.region false [⟨(some 30), (.build [(.d (.int .i64 0)), (.d (.int .i64 0)), (.d (.str ⟨#[]⟩)), (.nilL 1), (.nilL 1), (.nilL 8), (.d (.int .i64 0)), (.d (.int .i64 0))] []), [], none⟩,
  ⟨none, (.store 8 (.t 4) (.t 30)), [0, 0], none⟩, ⟨(some 5), (.mov (.k (.one (.d (.bool false))))), [1, 0, 1], none⟩]) .ret)
def j57_0 : SCode :=
  (.seq (some [4]) (.seq none (.region false [⟨(some 13), (.faddr 5 (.t 2)), [], none⟩, ⟨(some 14), (.load false 1 (.t 13)), [0], none⟩, ⟨(some 15), (.len false (.t 14)), [1], none⟩, ⟨(some 16),
  (.mov (.k (.one (.d (.int .i64 0))))), [], none⟩]) (.block 0 (.loop [1, 4, 14, 15, 16] lb57_0))) j57_3)
def sf57 : SFunc :=
  ⟨2, [(.cell true 8 4), (.tmp 5)], (.seq none (.region false [⟨(some 2), (.box [(.int .i64), (.int .i64), .str, (.lst 1), (.lst 1), (.lst 8), (.int .i64), (.int .i64)] (.t 0)), [], none⟩, ⟨(some 4),
  (.alloc [(.int .i64), (.int .i64), .str, (.lst 1), (.lst 1), (.lst 8), (.int .i64), (.int .i64)] [(.d (.int .i64 0)), (.d (.int .i64 0)), (.d (.str ⟨#[]⟩)), (.nilL 1), (.nilL 1), (.nilL 8),
  (.d (.int .i64 0)), (.d (.int .i64 0))]), [], none⟩, ⟨(some 5), (.mov (.k (.one (.d (.bool false))))), [], none⟩]) (.seq (some [1, 2, 4]) (.seq none (.region false [⟨(some 10), (.mov (.t 1)), [],
  none⟩, ⟨(some 11), (.ibin .i64 .lss (.t 10) (.k (.one (.d (.int .i64 1))))), [0], none⟩]) (.cond (.t 11) (.seq none (.region false [⟨(some 12), (.load true 8 (.t 2)), [], none⟩, ⟨none,
  (.store 8 (.t 4) (.t 12)), [0, 0], none⟩, ⟨(some 5), (.mov (.k (.one (.d (.bool true))))), [1, 0, 1], none⟩]) .ret) .skip)) j57_0))⟩
theorem c57 : compFunc Try.prog [none, some [1, 2, 4], none, none, some [4], none, some [1, 4, 14, 15, 16], none, some [1, 4, 14, 15, 16], some [1, 4, 14, 15, 16], none, none, none, none, none] Try.f57 = some sf57 := by kernel_rfl
/-! sortilege/sortilegelaw06.size -/
def j69_1 : SCode :=
  (.region false [⟨(some 28), (.mov (.t 7)), [], none⟩, ⟨(some 29), (.ibin .i64 .add (.t 28) (.k (.one (.d (.int .i64 1))))), [0], none⟩, ⟨(some 7), (.mov (.t 29)), [1, 0, 1], none⟩])
def j69_0 : SCode :=
  (.seq (some [1, 2, 3, 7]) (.block 1 (.region false [⟨(some 30), (.faddr 5 (.t 3)), [], none⟩, ⟨(some 31), (.load false 1 (.t 30)), [0], none⟩, ⟨(some 32), (.mov (.t 7)), [], none⟩, ⟨(some 33),
  (.iaddr 8 (.t 31) (.t 32)), [1, 2], none⟩, ⟨(some 34), (.load true 8 (.t 33)), [3], none⟩, ⟨(some 35), (.mov (.t 1)), [], none⟩, ⟨(some 36), (.mov (.t 2)), [], none⟩, ⟨(some 37), (.call 69 [(.t 34),
  (.t 35), (.t 36)]), [4, 5, 6], none⟩, ⟨(some 1), (.mov (.t 37)), [7, 7, 0, 1, 2, 3, 4, 5, 6, 7], none⟩])) j69_1)
def lb69_0 : SCode :=
  (.seq (some [1, 2, 3, 7]) (.seq none (.region false [⟨(some 18), (.mov (.t 7)), [], none⟩, ⟨(some 19), (.faddr 5 (.t 3)), [], none⟩, ⟨(some 20), (.load false 1 (.t 19)), [1], none⟩, ⟨(some 21),
  (.len false (.t 20)), [2], none⟩, ⟨(some 22), (.ibin .i64 .lss (.t 18) (.t 21)), [0, 3], none⟩, ⟨(some 23), (.mov (.t 22)), [4], none⟩, ⟨(some 24), (.mov (.t 1)), [5], (some (5, (23, true)))⟩,
  ⟨(some 25), (.mov (.t 2)), [5], (some (5, (23, true)))⟩, ⟨(some 26), (.ibin .i64 .leq (.t 24) (.t 25)), [6, 7, 5], (some (5, (23, true)))⟩, ⟨(some 27),
  (.pick (.t 23) (.t 26) (.k (.one (.d (.bool false))))), [5, 8], none⟩]) (.cond (.t 27) .skip (.exit 0))) j69_0)
def j69_2 : SCode :=
  (.seq none (.region false [⟨(some 38), (.mov (.t 1)), [], none⟩, ⟨(some 6), (.mov (.t 38)), [0, 0], none⟩]) .ret)
def sf69 : SFunc :=
  ⟨3, [(.tmp 6)], (.seq none (.region false [⟨(some 3), (.box [(.int .i64), (.int .i64), .str, (.lst 1), (.lst 1), (.lst 8), (.int .i64), (.int .i64)] (.t 0)), [], none⟩, ⟨(some 6),
  (.mov (.k (.one (.d (.int .i64 0))))), [], none⟩]) (.seq none (.region false [⟨(some 8), (.mov (.t 1)), [], none⟩, ⟨(some 9), (.ibin .i64 .add (.t 8) (.k (.one (.d (.int .i64 1))))), [0], none⟩,
  ⟨(some 10), (.faddr 3 (.t 3)), [], none⟩, ⟨(some 11), (.load false 1 (.t 10)), [2], none⟩, ⟨(some 12), (.len false (.t 11)), [3], none⟩, ⟨(some 13), (.ibin .i64 .add (.t 9) (.t 12)), [1, 4], none⟩,
  ⟨(some 14), (.faddr 4 (.t 3)), [], none⟩, ⟨(some 15), (.load false 1 (.t 14)), [6], none⟩, ⟨(some 16), (.len false (.t 15)), [7], none⟩, ⟨(some 17), (.ibin .i64 .add (.t 13) (.t 16)), [5, 8], none⟩,
  ⟨(some 1), (.mov (.t 17)), [9, 0, 1, 2, 3, 4, 5, 6, 7, 8, 9], none⟩]) (.seq (some [1]) (.seq none (.region false [⟨(some 7), (.mov (.k (.one (.d (.int .i64 0))))), [], none⟩]) (.block 0 (.loop [1,
  2, 3, 7] lb69_0))) j69_2)))⟩
theorem c69 : compFunc Try.prog [none, none, some [1], none, some [1, 2, 3, 7], some [1, 2, 3, 7], none, some [1, 2, 3, 7], none] Try.f69 = some sf69 := by kernel_rfl
/-! sortilege/sortilegelaw03.typeSize -/
def j70_1 : SCode :=
  (.region false [⟨(some 20), (.mov (.t 7)), [], none⟩, ⟨(some 21), (.ibin .i64 .add (.t 20) (.k (.one (.d (.int .i64 1))))), [0], none⟩, ⟨(some 7), (.mov (.t 21)), [1, 0, 1], none⟩])
def j70_0 : SCode :=
  (.seq (some [1, 2, 3, 7]) (.block 1 (.region false [⟨(some 22), (.faddr 1 (.t 3)), [], none⟩, ⟨(some 23), (.load false 1 (.t 22)), [0], none⟩, ⟨(some 24), (.mov (.t 7)), [], none⟩, ⟨(some 25),
  (.iaddr 2 (.t 23) (.t 24)), [1, 2], none⟩, ⟨(some 26), (.load true 2 (.t 25)), [3], none⟩, ⟨(some 27), (.mov (.t 1)), [], none⟩, ⟨(some 28), (.mov (.t 2)), [], none⟩, ⟨(some 29), (.call 70 [(.t 26),
  (.t 27), (.t 28)]), [4, 5, 6], none⟩, ⟨(some 1), (.mov (.t 29)), [7, 7, 0, 1, 2, 3, 4, 5, 6, 7], none⟩])) j70_1)
def lb70_0 : SCode :=
  (.seq (some [1, 2, 3, 7]) (.seq none (.region false [⟨(some 10), (.mov (.t 7)), [], none⟩, ⟨(some 11), (.faddr 1 (.t 3)), [], none⟩, ⟨(some 12), (.load false 1 (.t 11)), [1], none⟩, ⟨(some 13),
  (.len false (.t 12)), [2], none⟩, ⟨(some 14), (.ibin .i64 .lss (.t 10) (.t 13)), [0, 3], none⟩, ⟨(some 15), (.mov (.t 14)), [4], none⟩, ⟨(some 16), (.mov (.t 1)), [5], (some (5, (15, true)))⟩,
  ⟨(some 17), (.mov (.t 2)), [5], (some (5, (15, true)))⟩, ⟨(some 18), (.ibin .i64 .leq (.t 16) (.t 17)), [6, 7, 5], (some (5, (15, true)))⟩, ⟨(some 19),
  (.pick (.t 15) (.t 18) (.k (.one (.d (.bool false))))), [5, 8], none⟩]) (.cond (.t 19) .skip (.exit 0))) j70_0)
def j70_2 : SCode :=
  (.seq none (.region false [⟨(some 30), (.mov (.t 1)), [], none⟩, ⟨(some 6), (.mov (.t 30)), [0, 0], none⟩]) .ret)
def sf70 : SFunc :=
  ⟨3, [(.tmp 6)], (.seq none (.region false [⟨(some 3), (.box [(.int .i64), (.lst 2)] (.t 0)), [], none⟩, ⟨(some 6), (.mov (.k (.one (.d (.int .i64 0))))), [],
  none⟩]) (.seq none (.region false [⟨(some 8), (.mov (.t 1)), [], none⟩, ⟨(some 9), (.ibin .i64 .add (.t 8) (.k (.one (.d (.int .i64 1))))), [0], none⟩, ⟨(some 1), (.mov (.t 9)), [1, 0, 1],
  none⟩]) (.seq (some [1]) (.seq none (.region false [⟨(some 7), (.mov (.k (.one (.d (.int .i64 0))))), [], none⟩]) (.block 0 (.loop [1, 2, 3, 7] lb70_0))) j70_2)))⟩
theorem c70 : compFunc Try.prog [none, none, some [1], none, some [1, 2, 3, 7], some [1, 2, 3, 7], none, some [1, 2, 3, 7], none] Try.f70 = some sf70 := by kernel_rfl
/-! slices.EqualFunc[[]sortilege/api.Type,[]sortilege/api.Type,sortilege/api.Type,sortilege/api.Type] -/
def j71_2 : SCode :=
  (.region false [⟨(some 31), (.ibin .i64 .add (.t 17) (.k (.one (.d (.int .i64 1))))), [], none⟩, ⟨(some 17), (.mov (.t 31)), [0], none⟩])
def j71_1 : SCode :=
  (.seq (some [1, 2, 15, 16, 17]) (.block 1 (.seq none (.region false [⟨(some 19), (.mov (.t 17)), [], none⟩, ⟨(some 20), (.iaddr 2 (.t 15) (.t 17)), [], none⟩, ⟨(some 21), (.load true 2 (.t 20)), [1],
  none⟩, ⟨(some 8), (.alloc [(.int .i64), (.lst 2)] [(.d (.int .i64 0)), (.nilL 2)]), [], none⟩, ⟨(some 7), (.mov (.t 19)), [0, 0, 1, 2, 3], none⟩, ⟨none, (.store 2 (.t 8) (.t 21)), [3, 2, 4, 0, 1, 2,
  3, 4], none⟩]) (.seq none (.region false [⟨(some 22), (.mov (.t 1)), [], none⟩, ⟨(some 23), (.mov (.t 7)), [], none⟩, ⟨(some 24), (.iaddr 2 (.t 22) (.t 23)), [0, 1], none⟩, ⟨(some 25),
  (.load true 2 (.t 24)), [2], none⟩, ⟨(some 9), (.alloc [(.int .i64), (.lst 2)] [(.d (.int .i64 0)), (.nilL 2)]), [], none⟩, ⟨none, (.store 2 (.t 9) (.t 25)), [4, 3, 0, 1, 2, 3, 4],
  none⟩]) (.seq none (.region false [⟨(some 26), (.mov (.t 2)), [], none⟩, ⟨(some 27), (.load true 2 (.t 8)), [], none⟩, ⟨(some 28), (.load true 2 (.t 9)), [], none⟩, ⟨(some 29),
  (.callv (.t 26) [(.t 27), (.t 28)]), [0, 1, 2], none⟩, ⟨(some 30), (.inot (.t 29)), [3], none⟩]) (.cond (.t 30) (.seq none (.region false [⟨(some 6), (.mov (.k (.one (.d (.bool false))))), [],
  none⟩]) .ret) .skip))))) j71_2)
def lb71_0 : SCode :=
  (.seq none (.region false [⟨(some 18), (.ibin .i64 .lss (.t 17) (.t 16)), [], none⟩]) (.seq (some [1, 2, 15, 16, 17]) (.cond (.t 18) .skip (.exit 0)) j71_1))
def j71_3 : SCode :=
  (.seq none (.region false [⟨(some 6), (.mov (.k (.one (.d (.bool true))))), [], none⟩]) .ret)
def j71_0 : SCode :=
  (.seq (some []) (.seq none (.region false [⟨(some 15), (.mov (.t 0)), [], none⟩, ⟨(some 16), (.len false (.t 15)), [0], none⟩, ⟨(some 17), (.mov (.k (.one (.d (.int .i64 0))))), [],
  none⟩]) (.block 0 (.loop [1, 2, 15, 16, 17] lb71_0))) j71_3)
def sf71 : SFunc :=
  ⟨3, [(.tmp 6)], (.seq none (.region false [⟨(some 6), (.mov (.k (.one (.d (.bool false))))), [], none⟩]) (.seq (some [0, 1, 2]) (.seq none (.region false [⟨(some 10), (.mov (.t 0)), [], none⟩,
  ⟨(some 11), (.len false (.t 10)), [0], none⟩, ⟨(some 12), (.mov (.t 1)), [], none⟩, ⟨(some 13), (.len false (.t 12)), [2], none⟩, ⟨(some 14), (.ibin .i64 .neq (.t 11) (.t 13)), [1, 3],
  none⟩]) (.cond (.t 14) (.seq none (.region false [⟨(some 6), (.mov (.k (.one (.d (.bool false))))), [], none⟩]) .ret) .skip)) j71_0))⟩
theorem c71 : compFunc Try.prog [none, some [0, 1, 2], none, none, some [], none, some [1, 2, 15, 16, 17], none, some [1, 2, 15, 16, 17], some [1, 2, 15, 16, 17], none, none, none, none, none] Try.f71 = some sf71 := by kernel_rfl
/-! (*sortilege/parser.reader).field -/
def sf72 : SFunc :=
  ⟨1, [(.cell true 5 2)], (.seq none (.region false [⟨(some 2), (.alloc [.str, (.int .i64), (.lst 2), (.int .i64), (.int .i64)] [(.d (.str ⟨#[]⟩)), (.d (.int .i64 0)), (.nilL 2), (.d (.int .i64 0)),
  (.d (.int .i64 0))]), [], none⟩]) (.seq none (.region false [⟨(some 4), (.mov (.t 0)), [], none⟩, ⟨(some 5), (.call 53 [(.t 4), (.k (.one (.d (.int .i64 1))))]), [0], none⟩, ⟨(some 3),
  (.alloc [(.int .i64), .str, (.int .i64), (.int .i64), (.int .i64)] [(.d (.int .i64 0)), (.d (.str ⟨#[]⟩)), (.d (.int .i64 0)), (.d (.int .i64 0)), (.d (.int .i64 0))]), [], none⟩, ⟨none,
  (.store 5 (.t 3) (.t 5)), [2, 1, 1, 0, 1, 2], none⟩]) (.seq none (.region false [⟨(some 6), (.mov (.t 0)), [], none⟩, ⟨(some 7), (.call 54 [(.t 6), (.k (.one (.d (.str ⟨#[58]⟩))))]), [0],
  none⟩]) (.seq none (.region true [⟨(some 8), (.faddr 1 (.t 3)), [], none⟩, ⟨(some 9), (.load false 1 (.t 8)), [0], none⟩, ⟨(some 10), (.mov (.t 0)), [], none⟩, ⟨(some 11), (.call 90 [(.t 10)]), [2],
  none⟩, ⟨(some 12), (.faddr 3 (.t 3)), [], none⟩, ⟨(some 13), (.load false 1 (.t 12)), [4], none⟩, ⟨(some 14), (.faddr 4 (.t 3)), [], none⟩, ⟨(some 15), (.load false 1 (.t 14)), [6], none⟩,
  ⟨(some 16), (.build [(.d (.str ⟨#[]⟩)), (.d (.int .i64 0)), (.nilL 2), (.d (.int .i64 0)), (.d (.int .i64 0))] [(0, (1, (.t 9))), (1, (2, (.t 11))), (3, (1, (.t 13))), (4, (1, (.t 15)))]), [1, 3, 5,
  7], none⟩, ⟨none, (.store 5 (.t 2) (.t 16)), [8, 3, 0, 1, 2, 3, 4, 5, 6, 7, 8], none⟩]) .ret))))⟩
theorem c72 : compFunc Try.prog [none, none, none, none] Try.f72 = some sf72 := by kernel_rfl
/-! (*sortilege/parser.reader).fun -/
def j73_0 : SCode :=
  (.block 1 (.region true [⟨(some 28), (.faddr 1 (.t 4)), [], none⟩, ⟨(some 29), (.load false 1 (.t 28)), [0], none⟩, ⟨(some 30), (.mov (.t 0)), [], none⟩, ⟨(some 31), (.call 72 [(.t 30)]), [2], none⟩,
  ⟨(some 32), (.lit 74 5 [(.t 31)]), [3], none⟩, ⟨(some 33), (.app 74 5 64 (.t 29) (.t 32)), [1, 4, 3], none⟩, ⟨(some 34), (.faddr 1 (.t 4)), [0, 1, 2, 3, 4, 5], none⟩, ⟨none,
  (.store 1 (.t 34) (.t 33)), [6, 5, 5, 0, 1, 2, 3, 4, 5], none⟩]))
def lb73_0 : SCode :=
  (.seq (some [0, 2, 4]) (.seq none (.region false [⟨(some 26), (.mov (.t 0)), [], none⟩, ⟨(some 27), (.call 51 [(.t 26), (.k (.one (.d (.str ⟨#[44]⟩))))]), [0],
  none⟩]) (.cond (.t 27) .skip (.exit 0))) j73_0)
def j73_1 : SCode :=
  (.seq none (.region false [⟨(some 35), (.mov (.t 0)), [], none⟩, ⟨(some 36), (.call 54 [(.t 35), (.k (.one (.d (.str ⟨#[41]⟩))))]), [0], none⟩]) (.seq none (.region false [⟨(some 37), (.mov (.t 0)),
  [], none⟩, ⟨(some 38), (.call 54 [(.t 37), (.k (.one (.d (.str ⟨#[58]⟩))))]), [0], none⟩]) (.seq none (.region false [⟨(some 39), (.mov (.t 0)), [], none⟩, ⟨(some 40), (.call 90 [(.t 39)]), [0],
  none⟩, ⟨(some 41), (.faddr 2 (.t 4)), [0, 1], none⟩, ⟨none, (.store 2 (.t 41) (.t 40)), [2, 1, 1, 0, 1], none⟩]) (.seq none (.region false [⟨(some 42), (.mov (.t 0)), [], none⟩, ⟨(some 43),
  (.call 54 [(.t 42), (.k (.one (.d (.str ⟨#[61]⟩))))]), [0], none⟩]) (.seq none (.region false [⟨(some 44), (.mov (.t 0)), [], none⟩, ⟨(some 45), (.call 24 [(.t 44)]), [0], none⟩, ⟨(some 46),
  (.faddr 4 (.t 4)), [0, 1], none⟩, ⟨none, (.store 8 (.t 46) (.t 45)), [2, 1, 1, 0, 1], none⟩]) (.seq none (.region false [⟨(some 47), (.mov (.t 0)), [], none⟩, ⟨(some 48), (.call 54 [(.t 47),
  (.k (.one (.d (.str ⟨#[59]⟩))))]), [0], none⟩]) (.seq none (.region false [⟨(some 49), (.load true 14 (.t 4)), [], none⟩, ⟨none, (.store 14 (.t 2) (.t 49)), [0, 0], none⟩]) .ret)))))))
def sf73 : SFunc :=
  ⟨1, [(.cell true 14 2)], (.seq none (.region false [⟨(some 2), (.alloc [.str, (.lst 5), (.int .i64), (.lst 2), (.int .i64), (.int .i64), .str, (.lst 1), (.lst 1), (.lst 8), (.int .i64), (.int .i64),
  (.int .i64), (.int .i64)] [(.d (.str ⟨#[]⟩)), (.nilL 5), (.d (.int .i64 0)), (.nilL 2), (.d (.int .i64 0)), (.d (.int .i64 0)), (.d (.str ⟨#[]⟩)), (.nilL 1), (.nilL 1), (.nilL 8),
  (.d (.int .i64 0)), (.d (.int .i64 0)), (.d (.int .i64 0)), (.d (.int .i64 0))]), [], none⟩]) (.seq none (.region false [⟨(some 5), (.mov (.t 0)), [], none⟩, ⟨(some 6), (.call 53 [(.t 5),
  (.k (.one (.d (.int .i64 1))))]), [0], none⟩, ⟨(some 3), (.alloc [(.int .i64), .str, (.int .i64), (.int .i64), (.int .i64)] [(.d (.int .i64 0)), (.d (.str ⟨#[]⟩)), (.d (.int .i64 0)),
  (.d (.int .i64 0)), (.d (.int .i64 0))]), [], none⟩, ⟨none, (.store 5 (.t 3) (.t 6)), [2, 1, 1, 0, 1, 2], none⟩]) (.seq none (.region false [⟨(some 7), (.faddr 1 (.t 3)), [], none⟩, ⟨(some 8),
  (.load false 1 (.t 7)), [0], none⟩, ⟨(some 9), (.faddr 3 (.t 3)), [], none⟩, ⟨(some 10), (.load false 1 (.t 9)), [2], none⟩, ⟨(some 11), (.faddr 4 (.t 3)), [], none⟩, ⟨(some 12),
  (.load false 1 (.t 11)), [4], none⟩, ⟨(some 13), (.build [(.d (.str ⟨#[]⟩)), (.nilL 5), (.d (.int .i64 0)), (.nilL 2), (.d (.int .i64 0)), (.d (.int .i64 0)), (.d (.str ⟨#[]⟩)), (.nilL 1),
  (.nilL 1), (.nilL 8), (.d (.int .i64 0)), (.d (.int .i64 0)), (.d (.int .i64 0)), (.d (.int .i64 0))] [(0, (1, (.t 8))), (12, (1, (.t 10))), (13, (1, (.t 12)))]), [1, 3, 5], none⟩, ⟨(some 4),
  (.alloc [.str, (.lst 5), (.int .i64), (.lst 2), (.int .i64), (.int .i64), .str, (.lst 1), (.lst 1), (.lst 8), (.int .i64), (.int .i64), (.int .i64), (.int .i64)] [(.d (.str ⟨#[]⟩)), (.nilL 5),
  (.d (.int .i64 0)), (.nilL 2), (.d (.int .i64 0)), (.d (.int .i64 0)), (.d (.str ⟨#[]⟩)), (.nilL 1), (.nilL 1), (.nilL 8), (.d (.int .i64 0)), (.d (.int .i64 0)), (.d (.int .i64 0)),
  (.d (.int .i64 0))]), [], none⟩, ⟨none, (.store 14 (.t 4) (.t 13)), [7, 6, 0, 1, 2, 3, 4, 5, 6, 7], none⟩]) (.seq none (.region false [⟨(some 14), (.mov (.t 0)), [], none⟩, ⟨(some 15),
  (.call 54 [(.t 14), (.k (.one (.d (.str ⟨#[40]⟩))))]), [0], none⟩]) (.seq (some [0, 2, 4]) (.seq none (.region false [⟨(some 16), (.mov (.t 0)), [], none⟩, ⟨(some 17), (.call 80 [(.t 16),
  (.k (.one (.d (.str ⟨#[41]⟩))))]), [0], none⟩, ⟨(some 18), (.inot (.t 17)), [1], none⟩]) (.cond (.t 18) (.seq none (.region true [⟨(some 19), (.faddr 1 (.t 4)), [], none⟩, ⟨(some 20),
  (.load false 1 (.t 19)), [0], none⟩, ⟨(some 21), (.mov (.t 0)), [], none⟩, ⟨(some 22), (.call 72 [(.t 21)]), [2], none⟩, ⟨(some 23), (.lit 74 5 [(.t 22)]), [3], none⟩, ⟨(some 24),
  (.app 74 5 64 (.t 20) (.t 23)), [1, 4, 3], none⟩, ⟨(some 25), (.faddr 1 (.t 4)), [0, 1, 2, 3, 4, 5], none⟩, ⟨none, (.store 1 (.t 25) (.t 24)), [6, 5, 5, 0, 1, 2, 3, 4, 5],
  none⟩]) (.block 0 (.loop [0, 2, 4] lb73_0))) .skip)) j73_1)))))⟩
theorem c73 : compFunc Try.prog [none, none, none, none, some [0, 2, 4], none, none, some [0, 2, 4], some [0, 2, 4], none, none, none, none, none, none, none, none] Try.f73 = some sf73 := by kernel_rfl
/-! sortilege/parser.limits$1 -/
def j74_0 : SCode :=
  (.seq none (.region false [⟨(some 13), (.build [(.d (.int .i64 0)), (.d (.str ⟨#[]⟩)), (.d (.int .i64 0)), (.d (.int .i64 0))] []), [], none⟩, ⟨none, (.store 4 (.t 6) (.t 13)), [0, 0], none⟩]) .ret)
def sf74 : SFunc :=
  ⟨3, [(.cell true 4 6)], (.seq none (.region false [⟨(some 3), (.box [(.int .i64), (.lst 2)] (.t 0)), [], none⟩, ⟨(some 6), (.alloc [(.int .i64), .str, (.int .i64), (.int .i64)] [(.d (.int .i64 0)),
  (.d (.str ⟨#[]⟩)), (.d (.int .i64 0)), (.d (.int .i64 0))]), [], none⟩]) (.seq (some [6]) (.seq none (.region false [⟨(some 7), (.load true 2 (.t 3)), [], none⟩, ⟨(some 8), (.call 75 [(.t 7)]), [0],
  none⟩, ⟨(some 9), (.ibin .i64 .gtr (.t 8) (.k (.one (.d (.int .i64 40))))), [1], none⟩]) (.cond (.t 9) (.seq none (.region false [⟨(some 10), (.mov (.t 1)), [], none⟩, ⟨(some 11), (.mov (.t 2)), [],
  none⟩, ⟨(some 12), (.build [(.d (.int .i64 0)), (.d (.str ⟨#[]⟩)), (.d (.int .i64 0)), (.d (.int .i64 0))] [(0, (1, (.k (.one (.d (.int .i64 2)))))), (2, (1, (.t 10))), (3, (1, (.t 11)))]), [0, 1],
  none⟩, ⟨none, (.store 4 (.t 6) (.t 12)), [2, 0, 1, 2], none⟩]) .ret) .skip)) j74_0))⟩
theorem c74 : compFunc Try.prog [none, some [6], none, none, none] Try.f74 = some sf74 := by kernel_rfl
/-! sortilege/parser.deepType -/
def j75_1 : SCode :=
  (.region false [⟨(some 17), (.ibin .i64 .add (.t 9) (.k (.one (.d (.int .i64 1))))), [], none⟩, ⟨(some 9), (.mov (.t 17)), [0], none⟩])
def j75_0 : SCode :=
  (.seq (some [3, 7, 8, 9]) (.block 1 (.seq none (.region false [⟨(some 11), (.iaddr 2 (.t 7) (.t 9)), [], none⟩, ⟨(some 12), (.load true 2 (.t 11)), [0], none⟩, ⟨(some 5), (.alloc [(.int .i64),
  (.lst 2)] [(.d (.int .i64 0)), (.nilL 2)]), [], none⟩, ⟨none, (.store 2 (.t 5) (.t 12)), [2, 1, 0, 1, 2], none⟩]) (.region false [⟨(some 13), (.mov (.t 3)), [], none⟩, ⟨(some 14),
  (.load true 2 (.t 5)), [], none⟩, ⟨(some 15), (.call 75 [(.t 14)]), [1], none⟩, ⟨(some 16), (.mnmx true (.t 13) (.t 15)), [0, 2], none⟩, ⟨(some 3), (.mov (.t 16)), [3, 2, 0, 1, 2, 3],
  none⟩]))) j75_1)
def lb75_0 : SCode :=
  (.seq none (.region false [⟨(some 10), (.ibin .i64 .lss (.t 9) (.t 8)), [], none⟩]) (.seq (some [3, 7, 8, 9]) (.cond (.t 10) .skip (.exit 0)) j75_0))
def j75_2 : SCode :=
  (.seq none (.region false [⟨(some 18), (.mov (.t 3)), [], none⟩, ⟨(some 19), (.ibin .i64 .add (.t 18) (.k (.one (.d (.int .i64 1))))), [0], none⟩, ⟨(some 2), (.mov (.t 19)), [1, 0, 1], none⟩]) .ret)
def sf75 : SFunc :=
  ⟨1, [(.tmp 2)], (.seq none (.region false [⟨(some 1), (.box [(.int .i64), (.lst 2)] (.t 0)), [], none⟩, ⟨(some 2), (.mov (.k (.one (.d (.int .i64 0))))), [],
  none⟩]) (.seq none (.region false [⟨(some 3), (.mov (.k (.one (.d (.int .i64 0))))), [], none⟩]) (.seq (some [3]) (.seq none (.region false [⟨(some 6), (.faddr 1 (.t 1)), [], none⟩, ⟨(some 7),
  (.load false 1 (.t 6)), [0], none⟩, ⟨(some 8), (.len false (.t 7)), [1], none⟩, ⟨(some 9), (.mov (.k (.one (.d (.int .i64 0))))), [], none⟩]) (.block 0 (.loop [3, 7, 8, 9] lb75_0))) j75_2)))⟩
theorem c75 : compFunc Try.prog [none, none, some [3], none, some [3, 7, 8, 9], none, some [3, 7, 8, 9], some [3, 7, 8, 9], none, none] Try.f75 = some sf75 := by kernel_rfl
/-! sortilege/lexer.small -/
def sf76 : SFunc :=
  ⟨1, [(.tmp 2)], (.seq none (.region false [⟨(some 2), (.mov (.k (.one (.d (.bool false))))), [], none⟩]) (.seq none (.region false [⟨(some 3), (.mov (.t 0)), [], none⟩, ⟨(some 4),
  (.ibin .u8 .geq (.t 3) (.k (.one (.d (.int .u8 97))))), [0], none⟩, ⟨(some 5), (.mov (.t 4)), [1], none⟩, ⟨(some 6), (.mov (.t 0)), [2], (some (2, (5, true)))⟩, ⟨(some 7),
  (.ibin .u8 .leq (.t 6) (.k (.one (.d (.int .u8 122))))), [3, 2], (some (2, (5, true)))⟩, ⟨(some 8), (.pick (.t 5) (.t 7) (.k (.one (.d (.bool false))))), [2, 4], none⟩, ⟨(some 2), (.mov (.t 8)), [5,
  2, 0, 1, 2, 3, 4, 5], none⟩]) .ret))⟩
theorem c76 : compFunc Try.prog [none, none] Try.f76 = some sf76 := by kernel_rfl
/-! sortilege/lexer.digit -/
def sf77 : SFunc :=
  ⟨1, [(.tmp 2)], (.seq none (.region false [⟨(some 2), (.mov (.k (.one (.d (.bool false))))), [], none⟩]) (.seq none (.region false [⟨(some 3), (.mov (.t 0)), [], none⟩, ⟨(some 4),
  (.ibin .u8 .geq (.t 3) (.k (.one (.d (.int .u8 48))))), [0], none⟩, ⟨(some 5), (.mov (.t 4)), [1], none⟩, ⟨(some 6), (.mov (.t 0)), [2], (some (2, (5, true)))⟩, ⟨(some 7),
  (.ibin .u8 .leq (.t 6) (.k (.one (.d (.int .u8 57))))), [3, 2], (some (2, (5, true)))⟩, ⟨(some 8), (.pick (.t 5) (.t 7) (.k (.one (.d (.bool false))))), [2, 4], none⟩, ⟨(some 2), (.mov (.t 8)), [5,
  2, 0, 1, 2, 3, 4, 5], none⟩]) .ret))⟩
theorem c77 : compFunc Try.prog [none, none] Try.f77 = some sf77 := by kernel_rfl
/-! sortilege/lexer.sign -/
def j79_1 : SCode :=
  (.region false [⟨(some 15), (.ibin .i64 .add (.t 7) (.k (.one (.d (.int .i64 1))))), [], none⟩, ⟨(some 7), (.mov (.t 15)), [0], none⟩])
def j79_0 : SCode :=
  (.seq (some [0, 5, 6, 7]) (.block 1 (.seq none (.region false [⟨(some 9), (.iaddr 1 (.t 5) (.t 7)), [], none⟩, ⟨(some 10), (.load false 1 (.t 9)), [0], none⟩, ⟨(some 4), (.mov (.t 10)), [1, 0, 1],
  none⟩]) (.seq none (.region false [⟨(some 11), (.mov (.t 0)), [], none⟩, ⟨(some 12), (.mov (.t 4)), [], none⟩, ⟨(some 13), (.call 92 [(.t 11), (.t 12)]), [0, 1],
  none⟩]) (.cond (.t 13) (.seq none (.region false [⟨(some 14), (.mov (.t 4)), [], none⟩, ⟨(some 2), (.mov (.t 14)), [0, 0], none⟩]) .ret) .skip)))) j79_1)
def lb79_0 : SCode :=
  (.seq none (.region false [⟨(some 8), (.ibin .i64 .lss (.t 7) (.t 6)), [], none⟩]) (.seq (some [0, 5, 6, 7]) (.cond (.t 8) .skip (.exit 0)) j79_0))
def j79_3 : SCode :=
  (.seq none (.region false [⟨(some 2), (.mov (.k (.one (.d (.str ⟨#[]⟩))))), [], none⟩]) .ret)
def j79_2 : SCode :=
  (.seq (some []) (.seq none (.region false [⟨(some 16), (.mov (.t 0)), [], none⟩, ⟨(some 17), (.chr (.t 16) (.k (.one (.d (.int .i64 0))))), [0], none⟩, ⟨(some 18),
  (.call 93 [(.k (.one (.d (.str ⟨#[40, 41, 91, 93, 123, 125, 44, 59, 58, 124, 43, 45, 42, 47, 37, 61, 60]⟩)))), (.t 17)]), [1], none⟩, ⟨(some 19),
  (.ibin .i64 .geq (.t 18) (.k (.one (.d (.int .i64 0))))), [2], none⟩]) (.cond (.t 19) (.seq none (.region false [⟨(some 20), (.mov (.t 0)), [], none⟩, ⟨(some 21),
  (.sub (.t 20) none (some (.k (.one (.d (.int .i64 1)))))), [0], none⟩, ⟨(some 2), (.mov (.t 21)), [1, 0, 1], none⟩]) .ret) .skip)) j79_3)
def sf79 : SFunc :=
  ⟨1, [(.tmp 2)], (.seq none (.region false [⟨(some 2), (.mov (.k (.one (.d (.str ⟨#[]⟩))))), [], none⟩]) (.seq (some [0]) (.seq none (.region false [⟨(some 5), (.lit 9 1 [(.k (.one (.d (.str ⟨#[61,
  61]⟩)))), (.k (.one (.d (.str ⟨#[61, 62]⟩)))), (.k (.one (.d (.str ⟨#[60, 61]⟩)))), (.k (.one (.d (.str ⟨#[58, 58]⟩))))]), [], none⟩, ⟨(some 6), (.len false (.t 5)), [0], none⟩, ⟨(some 7),
  (.mov (.k (.one (.d (.int .i64 0))))), [], none⟩]) (.block 0 (.loop [0, 5, 6, 7] lb79_0))) j79_2))⟩
theorem c79 : compFunc Try.prog [none, some [0], none, some [0, 5, 6, 7], none, some [0, 5, 6, 7], some [0, 5, 6, 7], none, none, none, some [], none, none, none] Try.f79 = some sf79 := by kernel_rfl
/-! (*sortilege/parser.reader).is -/
def sf80 : SFunc :=
  ⟨2, [(.tmp 4)], (.seq none (.region false [⟨(some 4), (.mov (.k (.one (.d (.bool false))))), [], none⟩]) (.seq none (.region false [⟨(some 6), (.mov (.t 0)), [], none⟩, ⟨(some 7), (.call 49 [(.t 6)]),
  [0], none⟩, ⟨(some 5), (.alloc [(.int .i64), .str, (.int .i64), (.int .i64), (.int .i64)] [(.d (.int .i64 0)), (.d (.str ⟨#[]⟩)), (.d (.int .i64 0)), (.d (.int .i64 0)), (.d (.int .i64 0))]), [],
  none⟩, ⟨none, (.store 5 (.t 5) (.t 7)), [2, 1, 1, 0, 1, 2], none⟩]) (.seq none (.region false [⟨(some 8), (.faddr 0 (.t 5)), [], none⟩, ⟨(some 9), (.load false 1 (.t 8)), [0], none⟩, ⟨(some 10),
  (.ibin .i64 .eql (.t 9) (.k (.one (.d (.int .i64 4))))), [1], none⟩, ⟨(some 11), (.mov (.t 10)), [2], none⟩, ⟨(some 12), (.faddr 0 (.t 5)), [3], (some (3, (11, false)))⟩, ⟨(some 13),
  (.load false 1 (.t 12)), [4, 3], (some (3, (11, false)))⟩, ⟨(some 14), (.ibin .i64 .eql (.t 13) (.k (.one (.d (.int .i64 2))))), [5, 3], (some (3, (11, false)))⟩, ⟨(some 15),
  (.pick (.t 11) (.k (.one (.d (.bool true)))) (.t 14)), [3, 6], none⟩, ⟨(some 16), (.mov (.t 15)), [7, 3], none⟩, ⟨(some 17), (.faddr 1 (.t 5)), [8], (some (8, (16, true)))⟩, ⟨(some 18),
  (.load false 1 (.t 17)), [9, 8], (some (8, (16, true)))⟩, ⟨(some 19), (.mov (.t 1)), [8], (some (8, (16, true)))⟩, ⟨(some 20), (.sbin .eql (.t 18) (.t 19)), [10, 11, 8], (some (8, (16, true)))⟩,
  ⟨(some 21), (.pick (.t 16) (.t 20) (.k (.one (.d (.bool false))))), [8, 12], none⟩, ⟨(some 4), (.mov (.t 21)), [13, 8, 0, 1, 2, 3, 4, 5, 6, 7, 8, 9, 10, 11, 12, 13], none⟩]) .ret)))⟩
theorem c80 : compFunc Try.prog [none, none, none] Try.f80 = some sf80 := by kernel_rfl
/-! (*sortilege/parser.reader).unary -/
def j81_0 : SCode :=
  (.seq none (.region false [⟨(some 16), (.load true 5 (.t 3)), [], none⟩, ⟨(some 17), (.call 52 [(.k (.one (.d (.int .i64 7)))), (.t 16)]), [0], none⟩, ⟨(some 5), (.alloc [(.int .i64), (.int .i64),
  .str, (.lst 1), (.lst 1), (.lst 8), (.int .i64), (.int .i64)] [(.d (.int .i64 0)), (.d (.int .i64 0)), (.d (.str ⟨#[]⟩)), (.nilL 1), (.nilL 1), (.nilL 8), (.d (.int .i64 0)), (.d (.int .i64 0))]),
  [], none⟩, ⟨none, (.store 8 (.t 5) (.t 17)), [2, 1, 1, 0, 1, 2], none⟩]) (.seq none (.region false [⟨(some 18), (.mov (.t 4)), [], none⟩, ⟨(some 19), (.faddr 2 (.t 5)), [0], none⟩, ⟨none,
  (.store 1 (.t 19) (.t 18)), [1, 0, 0], none⟩]) (.seq none (.region false [⟨(some 20), (.mov (.t 0)), [], none⟩, ⟨(some 21), (.call 81 [(.t 20)]), [0], none⟩, ⟨(some 22), (.lit 27 8 [(.t 21)]), [1],
  none⟩, ⟨(some 23), (.faddr 5 (.t 5)), [0, 1, 2], none⟩, ⟨none, (.store 1 (.t 23) (.t 22)), [3, 2, 1, 0, 1, 2], none⟩]) (.seq none (.region false [⟨(some 24), (.load true 8 (.t 5)), [], none⟩, ⟨none,
  (.store 8 (.t 2) (.t 24)), [0, 0], none⟩]) .ret))))
def sf81 : SFunc :=
  ⟨1, [(.cell true 8 2)], (.seq none (.region false [⟨(some 2), (.alloc [(.int .i64), (.int .i64), .str, (.lst 1), (.lst 1), (.lst 8), (.int .i64), (.int .i64)] [(.d (.int .i64 0)), (.d (.int .i64 0)),
  (.d (.str ⟨#[]⟩)), (.nilL 1), (.nilL 1), (.nilL 8), (.d (.int .i64 0)), (.d (.int .i64 0))]), [], none⟩]) (.seq none (.region false [⟨(some 6), (.mov (.t 0)), [], none⟩, ⟨(some 7),
  (.call 49 [(.t 6)]), [0], none⟩, ⟨(some 3), (.alloc [(.int .i64), .str, (.int .i64), (.int .i64), (.int .i64)] [(.d (.int .i64 0)), (.d (.str ⟨#[]⟩)), (.d (.int .i64 0)), (.d (.int .i64 0)),
  (.d (.int .i64 0))]), [], none⟩, ⟨none, (.store 5 (.t 3) (.t 7)), [2, 1, 1, 0, 1, 2], none⟩]) (.seq none (.region false [⟨(some 4), (.mov (.k (.one (.d (.str ⟨#[]⟩))))), [], none⟩]) (.seq (some [0,
  2, 3, 4]) (.block 0 (.seq none (.region false [⟨(some 11), (.mov (.t 0)), [], none⟩, ⟨(some 12), (.call 51 [(.t 11), (.k (.one (.d (.str ⟨#[110, 111, 116]⟩))))]), [0], none⟩, ⟨(some 10),
  (.mov (.t 12)), [1, 1], none⟩]) (.cond (.t 10) (.region false [⟨(some 4), (.mov (.k (.one (.d (.str ⟨#[110, 111, 116]⟩))))), [], none⟩]) (.seq none (.region false [⟨(some 14), (.mov (.t 0)), [],
  none⟩, ⟨(some 15), (.call 51 [(.t 14), (.k (.one (.d (.str ⟨#[45]⟩))))]), [0], none⟩, ⟨(some 13), (.mov (.t 15)), [1, 1], none⟩]) (.cond (.t 13) (.region false [⟨(some 4),
  (.mov (.k (.one (.d (.str ⟨#[110, 101, 103]⟩))))), [], none⟩]) (.seq none (.region false [⟨(some 8), (.mov (.t 0)), [], none⟩, ⟨(some 9), (.call 94 [(.t 8)]), [0], none⟩, ⟨none,
  (.store 8 (.t 2) (.t 9)), [1, 1, 0, 1], none⟩]) .ret)))))) j81_0))))⟩
theorem c81 : compFunc Try.prog [none, none, none, some [0, 2, 3, 4], none, none, none, none, none, none, none] Try.f81 = some sf81 := by kernel_rfl
/-! (*sortilege/parser.reader).operator -/
def j82_1 : SCode :=
  (.seq none (.region false [⟨(some 4), (.mov (.k (.one (.d (.str ⟨#[]⟩))))), [], none⟩]) .ret)
def j82_0 : SCode :=
  (.seq (some []) (.seq none (.region false [⟨(some 16), (.mov (.t 1)), [], none⟩]) (.block 0 (.seq none (.region false [⟨(some 18), (.ibin .i64 .eql (.t 16) (.k (.one (.d (.int .i64 0))))), [], none⟩,
  ⟨(some 17), (.mov (.t 18)), [0], none⟩]) (.cond (.t 17) (.seq none (.region false [⟨(some 19), (.faddr 1 (.t 5)), [], none⟩, ⟨(some 20), (.load false 1 (.t 19)), [0], none⟩, ⟨(some 21),
  (.sbin .eql (.t 20) (.k (.one (.d (.str ⟨#[111, 114]⟩))))), [1], none⟩]) (.cond (.t 21) (.seq none (.region false [⟨(some 22), (.faddr 1 (.t 5)), [], none⟩, ⟨(some 23), (.load false 1 (.t 22)), [0],
  none⟩, ⟨(some 4), (.mov (.t 23)), [1, 0, 1], none⟩]) .ret) .skip)) (.seq none (.region false [⟨(some 25), (.ibin .i64 .eql (.t 16) (.k (.one (.d (.int .i64 1))))), [], none⟩, ⟨(some 24),
  (.mov (.t 25)), [0], none⟩]) (.cond (.t 24) (.seq none (.region false [⟨(some 26), (.faddr 1 (.t 5)), [], none⟩, ⟨(some 27), (.load false 1 (.t 26)), [0], none⟩, ⟨(some 28),
  (.sbin .eql (.t 27) (.k (.one (.d (.str ⟨#[97, 110, 100]⟩))))), [1], none⟩]) (.cond (.t 28) (.seq none (.region false [⟨(some 29), (.faddr 1 (.t 5)), [], none⟩, ⟨(some 30), (.load false 1 (.t 29)),
  [0], none⟩, ⟨(some 4), (.mov (.t 30)), [1, 0, 1], none⟩]) .ret) .skip)) (.seq none (.region false [⟨(some 32), (.ibin .i64 .eql (.t 16) (.k (.one (.d (.int .i64 2))))), [], none⟩, ⟨(some 31),
  (.mov (.t 32)), [0], none⟩]) (.cond (.t 31) (.seq none (.region false [⟨(some 33), (.lit 9 1 [(.k (.one (.d (.str ⟨#[61, 61]⟩)))), (.k (.one (.d (.str ⟨#[60]⟩)))), (.k (.one (.d (.str ⟨#[60,
  61]⟩))))]), [], none⟩, ⟨(some 34), (.faddr 1 (.t 5)), [], none⟩, ⟨(some 35), (.load false 1 (.t 34)), [1], none⟩, ⟨(some 36), (.call 95 [(.t 33), (.t 35)]), [0, 2],
  none⟩]) (.cond (.t 36) (.seq none (.region false [⟨(some 37), (.faddr 1 (.t 5)), [], none⟩, ⟨(some 38), (.load false 1 (.t 37)), [0], none⟩, ⟨(some 4), (.mov (.t 38)), [1, 0, 1],
  none⟩]) .ret) .skip)) (.seq none (.region false [⟨(some 40), (.ibin .i64 .eql (.t 16) (.k (.one (.d (.int .i64 3))))), [], none⟩, ⟨(some 39), (.mov (.t 40)), [0],
  none⟩]) (.cond (.t 39) (.seq none (.region false [⟨(some 41), (.faddr 1 (.t 5)), [], none⟩, ⟨(some 42), (.load false 1 (.t 41)), [0], none⟩, ⟨(some 43),
  (.sbin .eql (.t 42) (.k (.one (.d (.str ⟨#[58, 58]⟩))))), [1], none⟩]) (.cond (.t 43) (.seq none (.region false [⟨(some 44), (.faddr 1 (.t 5)), [], none⟩, ⟨(some 45), (.load false 1 (.t 44)), [0],
  none⟩, ⟨(some 4), (.mov (.t 45)), [1, 0, 1], none⟩]) .ret) .skip)) (.seq none (.region false [⟨(some 47), (.ibin .i64 .eql (.t 16) (.k (.one (.d (.int .i64 4))))), [], none⟩, ⟨(some 46),
  (.mov (.t 47)), [0], none⟩]) (.cond (.t 46) (.seq none (.region false [⟨(some 48), (.faddr 1 (.t 5)), [], none⟩, ⟨(some 49), (.load false 1 (.t 48)), [0], none⟩, ⟨(some 50),
  (.sbin .eql (.t 49) (.k (.one (.d (.str ⟨#[43]⟩))))), [1], none⟩, ⟨(some 51), (.mov (.t 50)), [2], none⟩, ⟨(some 52), (.faddr 1 (.t 5)), [3], (some (3, (51, false)))⟩, ⟨(some 53),
  (.load false 1 (.t 52)), [4, 3], (some (3, (51, false)))⟩, ⟨(some 54), (.sbin .eql (.t 53) (.k (.one (.d (.str ⟨#[45]⟩))))), [5, 3], (some (3, (51, false)))⟩, ⟨(some 55),
  (.pick (.t 51) (.k (.one (.d (.bool true)))) (.t 54)), [3, 6], none⟩]) (.cond (.t 55) (.seq none (.region false [⟨(some 56), (.faddr 1 (.t 5)), [], none⟩, ⟨(some 57), (.load false 1 (.t 56)), [0],
  none⟩, ⟨(some 4), (.mov (.t 57)), [1, 0, 1], none⟩]) .ret) .skip)) (.seq none (.region false [⟨(some 59), (.ibin .i64 .eql (.t 16) (.k (.one (.d (.int .i64 5))))), [], none⟩, ⟨(some 58),
  (.mov (.t 59)), [0], none⟩]) (.cond (.t 58) (.seq none (.region false [⟨(some 60), (.faddr 1 (.t 5)), [], none⟩, ⟨(some 61), (.load false 1 (.t 60)), [0], none⟩, ⟨(some 62),
  (.sbin .eql (.t 61) (.k (.one (.d (.str ⟨#[42]⟩))))), [1], none⟩, ⟨(some 63), (.mov (.t 62)), [2], none⟩, ⟨(some 64), (.faddr 1 (.t 5)), [3], (some (3, (63, false)))⟩, ⟨(some 65),
  (.load false 1 (.t 64)), [4, 3], (some (3, (63, false)))⟩, ⟨(some 66), (.sbin .eql (.t 65) (.k (.one (.d (.str ⟨#[47]⟩))))), [5, 3], (some (3, (63, false)))⟩, ⟨(some 67),
  (.pick (.t 63) (.k (.one (.d (.bool true)))) (.t 66)), [3, 6], none⟩, ⟨(some 68), (.mov (.t 67)), [7, 3], none⟩, ⟨(some 69), (.faddr 1 (.t 5)), [8], (some (8, (68, false)))⟩, ⟨(some 70),
  (.load false 1 (.t 69)), [9, 8], (some (8, (68, false)))⟩, ⟨(some 71), (.sbin .eql (.t 70) (.k (.one (.d (.str ⟨#[37]⟩))))), [10, 8], (some (8, (68, false)))⟩, ⟨(some 72),
  (.pick (.t 68) (.k (.one (.d (.bool true)))) (.t 71)), [8, 11], none⟩]) (.cond (.t 72) (.seq none (.region false [⟨(some 73), (.faddr 1 (.t 5)), [], none⟩, ⟨(some 74), (.load false 1 (.t 73)), [0],
  none⟩, ⟨(some 4), (.mov (.t 74)), [1, 0, 1], none⟩]) .ret) .skip)) .skip)))))))))))))) j82_1)
def sf82 : SFunc :=
  ⟨2, [(.tmp 4)], (.seq none (.region false [⟨(some 4), (.mov (.k (.one (.d (.str ⟨#[]⟩))))), [], none⟩]) (.seq none (.region false [⟨(some 6), (.mov (.t 0)), [], none⟩, ⟨(some 7), (.call 49 [(.t 6)]),
  [0], none⟩, ⟨(some 5), (.alloc [(.int .i64), .str, (.int .i64), (.int .i64), (.int .i64)] [(.d (.int .i64 0)), (.d (.str ⟨#[]⟩)), (.d (.int .i64 0)), (.d (.int .i64 0)), (.d (.int .i64 0))]), [],
  none⟩, ⟨none, (.store 5 (.t 5) (.t 7)), [2, 1, 1, 0, 1, 2], none⟩]) (.seq (some [1, 5]) (.seq none (.region false [⟨(some 8), (.faddr 0 (.t 5)), [], none⟩, ⟨(some 9), (.load false 1 (.t 8)), [0],
  none⟩, ⟨(some 10), (.ibin .i64 .neq (.t 9) (.k (.one (.d (.int .i64 4))))), [1], none⟩, ⟨(some 11), (.mov (.t 10)), [2], none⟩, ⟨(some 12), (.faddr 0 (.t 5)), [3], (some (3, (11, true)))⟩,
  ⟨(some 13), (.load false 1 (.t 12)), [4, 3], (some (3, (11, true)))⟩, ⟨(some 14), (.ibin .i64 .neq (.t 13) (.k (.one (.d (.int .i64 2))))), [5, 3], (some (3, (11, true)))⟩, ⟨(some 15),
  (.pick (.t 11) (.t 14) (.k (.one (.d (.bool false))))), [3, 6], none⟩]) (.cond (.t 15) (.seq none (.region false [⟨(some 4), (.mov (.k (.one (.d (.str ⟨#[]⟩))))), [], none⟩]) .ret) .skip)) j82_0)))⟩
theorem c82 : compFunc Try.prog [none, none, some [1, 5], none, none, some [], none, none, none, none, none, none, none, none, none, none, none, none, none, none, none, none, none, none, none, none] Try.f82 = some sf82 := by kernel_rfl
/-! (*sortilege/parser.reader).typ -/
def j90_1 : SCode :=
  (.block 2 (.region true [⟨(some 40), (.faddr 1 (.t 4)), [], none⟩, ⟨(some 41), (.load false 1 (.t 40)), [0], none⟩, ⟨(some 42), (.mov (.t 0)), [], none⟩, ⟨(some 43), (.call 90 [(.t 42)]), [2], none⟩,
  ⟨(some 44), (.lit 55 2 [(.t 43)]), [3], none⟩, ⟨(some 45), (.app 55 2 32 (.t 41) (.t 44)), [1, 4, 3], none⟩, ⟨(some 46), (.faddr 1 (.t 4)), [0, 1, 2, 3, 4, 5], none⟩, ⟨none,
  (.store 1 (.t 46) (.t 45)), [6, 5, 5, 0, 1, 2, 3, 4, 5], none⟩]))
def lb90_0 : SCode :=
  (.seq (some [0, 2, 4]) (.seq none (.region false [⟨(some 38), (.mov (.t 0)), [], none⟩, ⟨(some 39), (.call 51 [(.t 38), (.k (.one (.d (.str ⟨#[44]⟩))))]), [0],
  none⟩]) (.cond (.t 39) .skip (.exit 1))) j90_1)
def j90_2 : SCode :=
  (.seq none (.region false [⟨(some 47), (.mov (.t 0)), [], none⟩, ⟨(some 48), (.call 54 [(.t 47), (.k (.one (.d (.str ⟨#[41]⟩))))]), [0], none⟩]) (.seq none (.region false [⟨(some 49),
  (.load true 2 (.t 4)), [], none⟩, ⟨none, (.store 2 (.t 2) (.t 49)), [0, 0], none⟩]) .ret))
def j90_0 : SCode :=
  (.seq none (.region false [⟨(some 23), (.mov (.t 0)), [], none⟩, ⟨(some 24), (.call 54 [(.t 23), (.k (.one (.d (.str ⟨#[40]⟩))))]), [0], none⟩]) (.seq none (.region false [⟨(some 25), (.mov (.t 0)),
  [], none⟩, ⟨(some 26), (.call 90 [(.t 25)]), [0], none⟩, ⟨(some 27), (.lit 55 2 [(.t 26)]), [1], none⟩, ⟨(some 28), (.build [(.d (.int .i64 0)), (.nilL 2)] [(0, (1, (.k (.one (.d (.int .i64 3)))))),
  (1, (1, (.t 27)))]), [2], none⟩, ⟨(some 4), (.alloc [(.int .i64), (.lst 2)] [(.d (.int .i64 0)), (.nilL 2)]), [], none⟩, ⟨none, (.store 2 (.t 4) (.t 28)), [4, 3, 1, 0, 1, 2, 3, 4],
  none⟩]) (.seq none (.region false [⟨(some 29), (.mov (.t 0)), [], none⟩, ⟨(some 30), (.call 54 [(.t 29), (.k (.one (.d (.str ⟨#[44]⟩))))]), [0], none⟩]) (.seq none (.region true [⟨(some 31),
  (.faddr 1 (.t 4)), [], none⟩, ⟨(some 32), (.load false 1 (.t 31)), [0], none⟩, ⟨(some 33), (.mov (.t 0)), [], none⟩, ⟨(some 34), (.call 90 [(.t 33)]), [2], none⟩, ⟨(some 35), (.lit 55 2 [(.t 34)]),
  [3], none⟩, ⟨(some 36), (.app 55 2 32 (.t 32) (.t 35)), [1, 4, 3], none⟩, ⟨(some 37), (.faddr 1 (.t 4)), [0, 1, 2, 3, 4, 5], none⟩, ⟨none, (.store 1 (.t 37) (.t 36)), [6, 5, 5, 0, 1, 2, 3, 4, 5],
  none⟩]) (.seq (some [0, 2, 4]) (.block 1 (.loop [0, 2, 4] lb90_0)) j90_2)))))
def sf90 : SFunc :=
  ⟨1, [(.cell true 2 2)], (.seq none (.region false [⟨(some 2), (.alloc [(.int .i64), (.lst 2)] [(.d (.int .i64 0)), (.nilL 2)]), [], none⟩]) (.seq (some [0,
  2]) (.block 0 (.seq none (.region false [⟨(some 6), (.mov (.t 0)), [], none⟩, ⟨(some 7), (.call 51 [(.t 6), (.k (.one (.d (.str ⟨#[98, 111, 111, 108]⟩))))]), [0], none⟩, ⟨(some 5), (.mov (.t 7)),
  [1, 1], none⟩]) (.cond (.t 5) (.seq none (.region false [⟨(some 8), (.build [(.d (.int .i64 0)), (.nilL 2)] [(0, (1, (.k (.one (.d (.int .i64 1))))))]), [], none⟩, ⟨none, (.store 2 (.t 2) (.t 8)),
  [0, 0], none⟩]) .ret) (.seq none (.region false [⟨(some 10), (.mov (.t 0)), [], none⟩, ⟨(some 11), (.call 51 [(.t 10), (.k (.one (.d (.str ⟨#[105, 110, 116]⟩))))]), [0], none⟩, ⟨(some 9),
  (.mov (.t 11)), [1, 1], none⟩]) (.cond (.t 9) (.seq none (.region false [⟨(some 12), (.build [(.d (.int .i64 0)), (.nilL 2)] [(0, (1, (.k (.one (.d (.int .i64 2))))))]), [], none⟩, ⟨none,
  (.store 2 (.t 2) (.t 12)), [0, 0], none⟩]) .ret) (.seq none (.region false [⟨(some 14), (.mov (.t 0)), [], none⟩, ⟨(some 15), (.call 51 [(.t 14), (.k (.one (.d (.str ⟨#[91]⟩))))]), [0], none⟩,
  ⟨(some 13), (.mov (.t 15)), [1, 1], none⟩]) (.cond (.t 13) (.seq none (.region false [⟨(some 16), (.mov (.t 0)), [], none⟩, ⟨(some 17), (.call 90 [(.t 16)]), [0], none⟩, ⟨(some 3),
  (.alloc [(.int .i64), (.lst 2)] [(.d (.int .i64 0)), (.nilL 2)]), [], none⟩, ⟨none, (.store 2 (.t 3) (.t 17)), [2, 1, 1, 0, 1, 2], none⟩]) (.seq none (.region false [⟨(some 18), (.mov (.t 0)), [],
  none⟩, ⟨(some 19), (.call 54 [(.t 18), (.k (.one (.d (.str ⟨#[93]⟩))))]), [0], none⟩]) (.seq none (.region false [⟨(some 20), (.load true 2 (.t 3)), [], none⟩, ⟨(some 21), (.lit 55 2 [(.t 20)]),
  [0], none⟩, ⟨(some 22), (.build [(.d (.int .i64 0)), (.nilL 2)] [(0, (1, (.k (.one (.d (.int .i64 4)))))), (1, (1, (.t 21)))]), [1], none⟩, ⟨none, (.store 2 (.t 2) (.t 22)), [2, 0, 1, 2],
  none⟩]) .ret))) .skip))))))) j90_0))⟩
theorem c90 : compFunc Try.prog [none, some [0, 2], none, none, none, none, none, none, none, none, none, none, none, none, some [0, 2, 4], some [0, 2, 4], some [0, 2, 4], none, none, none] Try.f90 = some sf90 := by kernel_rfl
/-! strings.HasPrefix -/
def sf92 : SFunc :=
  ⟨2, [(.tmp 4)], (.seq none (.region false [⟨(some 4), (.mov (.k (.one (.d (.bool false))))), [], none⟩]) (.seq none (.region false [⟨(some 5), (.mov (.t 0)), [], none⟩, ⟨(some 6), (.mov (.t 1)), [],
  none⟩, ⟨(some 7), (.call 99 [(.t 5), (.t 6)]), [0, 1], none⟩, ⟨(some 4), (.mov (.t 7)), [2, 2, 0, 1, 2], none⟩]) .ret))⟩
theorem c92 : compFunc Try.prog [none, none] Try.f92 = some sf92 := by kernel_rfl
/-! (*sortilege/parser.reader).atom -/
def j94_0 : SCode :=
  (.seq none (.region false [⟨(some 55), (.load true 8 (.t 5)), [], none⟩, ⟨none, (.store 8 (.t 2) (.t 55)), [0, 0], none⟩]) .ret)
def j94_2 : SCode :=
  (.block 2 (.region true [⟨(some 92), (.faddr 5 (.t 8)), [], none⟩, ⟨(some 93), (.load false 1 (.t 92)), [0], none⟩, ⟨(some 94), (.mov (.t 0)), [], none⟩, ⟨(some 95), (.call 24 [(.t 94)]), [2], none⟩,
  ⟨(some 96), (.lit 27 8 [(.t 95)]), [3], none⟩, ⟨(some 97), (.app 27 8 120 (.t 93) (.t 96)), [1, 4, 3], none⟩, ⟨(some 98), (.faddr 5 (.t 8)), [0, 1, 2, 3, 4, 5], none⟩, ⟨none,
  (.store 1 (.t 98) (.t 97)), [6, 5, 5, 0, 1, 2, 3, 4, 5], none⟩]))
def lb94_0 : SCode :=
  (.seq (some [0, 2, 8]) (.seq none (.region false [⟨(some 90), (.mov (.t 0)), [], none⟩, ⟨(some 91), (.call 51 [(.t 90), (.k (.one (.d (.str ⟨#[44]⟩))))]), [0],
  none⟩]) (.cond (.t 91) .skip (.exit 1))) j94_2)
def j94_3 : SCode :=
  (.seq none (.region false [⟨(some 99), (.mov (.t 0)), [], none⟩, ⟨(some 100), (.call 54 [(.t 99), (.k (.one (.d (.str ⟨#[41]⟩))))]), [0], none⟩]) (.seq none (.region false [⟨(some 101),
  (.load true 8 (.t 8)), [], none⟩, ⟨none, (.store 8 (.t 2) (.t 101)), [0, 0], none⟩]) .ret))
def j94_1 : SCode :=
  (.seq none (.region false [⟨(some 76), (.load true 5 (.t 3)), [], none⟩, ⟨(some 77), (.call 52 [(.k (.one (.d (.int .i64 5)))), (.t 76)]), [0], none⟩, ⟨(some 8), (.alloc [(.int .i64), (.int .i64),
  .str, (.lst 1), (.lst 1), (.lst 8), (.int .i64), (.int .i64)] [(.d (.int .i64 0)), (.d (.int .i64 0)), (.d (.str ⟨#[]⟩)), (.nilL 1), (.nilL 1), (.nilL 8), (.d (.int .i64 0)), (.d (.int .i64 0))]),
  [], none⟩, ⟨none, (.store 8 (.t 8) (.t 77)), [2, 1, 1, 0, 1, 2], none⟩]) (.seq none (.region false [⟨(some 78), (.load true 8 (.t 7)), [], none⟩, ⟨(some 79), (.lit 27 8 [(.t 78)]), [0], none⟩,
  ⟨(some 80), (.faddr 5 (.t 8)), [0, 1], none⟩, ⟨none, (.store 1 (.t 80) (.t 79)), [2, 1, 0, 1], none⟩]) (.seq none (.region false [⟨(some 81), (.mov (.t 0)), [], none⟩, ⟨(some 82),
  (.call 54 [(.t 81), (.k (.one (.d (.str ⟨#[44]⟩))))]), [0], none⟩]) (.seq none (.region true [⟨(some 83), (.faddr 5 (.t 8)), [], none⟩, ⟨(some 84), (.load false 1 (.t 83)), [0], none⟩, ⟨(some 85),
  (.mov (.t 0)), [], none⟩, ⟨(some 86), (.call 24 [(.t 85)]), [2], none⟩, ⟨(some 87), (.lit 27 8 [(.t 86)]), [3], none⟩, ⟨(some 88), (.app 27 8 120 (.t 84) (.t 87)), [1, 4, 3], none⟩, ⟨(some 89),
  (.faddr 5 (.t 8)), [0, 1, 2, 3, 4, 5], none⟩, ⟨none, (.store 1 (.t 89) (.t 88)), [6, 5, 5, 0, 1, 2, 3, 4, 5], none⟩]) (.seq (some [0, 2, 8]) (.block 1 (.loop [0, 2, 8] lb94_0)) j94_3)))))
def lb94_1 : SCode :=
  (.block 4 (.seq none (.region true [⟨(some 118), (.faddr 4 (.t 10)), [], none⟩, ⟨(some 119), (.load false 1 (.t 118)), [0], none⟩, ⟨(some 120), (.mov (.t 0)), [], none⟩, ⟨(some 121),
  (.call 53 [(.t 120), (.k (.one (.d (.int .i64 3))))]), [2], none⟩, ⟨(some 122), (.field false 2 1 (.t 121)), [3], none⟩, ⟨(some 123), (.lit 3 1 [(.t 122)]), [4], none⟩, ⟨(some 124),
  (.app 3 1 8 (.t 119) (.t 123)), [1, 5, 3], none⟩, ⟨(some 125), (.faddr 4 (.t 10)), [0, 1, 2, 3, 4, 5, 6], none⟩, ⟨none, (.store 1 (.t 125) (.t 124)), [7, 6, 6, 0, 1, 2, 3, 4, 5, 6],
  none⟩]) (.seq none (.region false [⟨(some 126), (.mov (.t 0)), [], none⟩, ⟨(some 127), (.call 54 [(.t 126), (.k (.one (.d (.str ⟨#[58]⟩))))]), [0], none⟩]) (.seq none (.region true [⟨(some 128),
  (.faddr 5 (.t 10)), [], none⟩, ⟨(some 129), (.load false 1 (.t 128)), [0], none⟩, ⟨(some 130), (.mov (.t 0)), [], none⟩, ⟨(some 131), (.call 24 [(.t 130)]), [2], none⟩, ⟨(some 132),
  (.lit 27 8 [(.t 131)]), [3], none⟩, ⟨(some 133), (.app 27 8 120 (.t 129) (.t 132)), [1, 4, 3], none⟩, ⟨(some 134), (.faddr 5 (.t 10)), [0, 1, 2, 3, 4, 5], none⟩, ⟨none, (.store 1 (.t 134) (.t 133)),
  [6, 5, 5, 0, 1, 2, 3, 4, 5], none⟩]) (.seq none (.region false [⟨(some 135), (.mov (.t 0)), [], none⟩, ⟨(some 136), (.call 51 [(.t 135), (.k (.one (.d (.str ⟨#[44]⟩))))]), [0], none⟩, ⟨(some 137),
  (.inot (.t 136)), [1], none⟩]) (.cond (.t 137) (.seq none (.region false [⟨(some 138), (.mov (.t 0)), [], none⟩, ⟨(some 139), (.call 54 [(.t 138), (.k (.one (.d (.str ⟨#[125]⟩))))]), [0],
  none⟩]) (.seq none (.region false [⟨(some 140), (.load true 8 (.t 10)), [], none⟩, ⟨none, (.store 8 (.t 2) (.t 140)), [0, 0], none⟩]) .ret)) .skip))))))
def j94_4 : SCode :=
  (.seq none (.region false [⟨(some 173), (.mov (.t 0)), [], none⟩, ⟨(some 174), (.call 50 [(.t 173)]), [0], none⟩]) (.seq none (.region false [⟨(some 175), (.build [(.d (.int .i64 0)),
  (.d (.int .i64 0)), (.d (.str ⟨#[]⟩)), (.nilL 1), (.nilL 1), (.nilL 8), (.d (.int .i64 0)), (.d (.int .i64 0))] []), [], none⟩, ⟨none, (.store 8 (.t 2) (.t 175)), [0, 0], none⟩]) .ret))
def sf94 : SFunc :=
  ⟨1, [(.cell true 8 2)], (.seq none (.region false [⟨(some 2), (.alloc [(.int .i64), (.int .i64), .str, (.lst 1), (.lst 1), (.lst 8), (.int .i64), (.int .i64)] [(.d (.int .i64 0)), (.d (.int .i64 0)),
  (.d (.str ⟨#[]⟩)), (.nilL 1), (.nilL 1), (.nilL 8), (.d (.int .i64 0)), (.d (.int .i64 0))]), [], none⟩]) (.seq none (.region false [⟨(some 14), (.mov (.t 0)), [], none⟩, ⟨(some 15),
  (.call 49 [(.t 14)]), [0], none⟩, ⟨(some 3), (.alloc [(.int .i64), .str, (.int .i64), (.int .i64), (.int .i64)] [(.d (.int .i64 0)), (.d (.str ⟨#[]⟩)), (.d (.int .i64 0)), (.d (.int .i64 0)),
  (.d (.int .i64 0))]), [], none⟩, ⟨none, (.store 5 (.t 3) (.t 15)), [2, 1, 1, 0, 1, 2], none⟩]) (.seq (some [0, 2]) (.block 0 (.seq none (.region false [⟨(some 17), (.faddr 0 (.t 3)), [], none⟩,
  ⟨(some 18), (.load false 1 (.t 17)), [0], none⟩, ⟨(some 19), (.ibin .i64 .eql (.t 18) (.k (.one (.d (.int .i64 3))))), [1], none⟩, ⟨(some 16), (.mov (.t 19)), [2],
  none⟩]) (.cond (.t 16) (.seq none (.region false [⟨(some 20), (.mov (.t 0)), [], none⟩, ⟨(some 21), (.nchk (.t 20)), [0], none⟩, ⟨(some 22), (.faddr 1 (.t 21)), [1], none⟩, ⟨(some 23),
  (.load false 1 (.t 22)), [2], none⟩, ⟨(some 24), (.ibin .i64 .add (.t 23) (.k (.one (.d (.int .i64 1))))), [3], none⟩, ⟨(some 25), (.nchk (.t 20)), [0, 0, 1, 2, 3, 4], none⟩, ⟨(some 26),
  (.faddr 1 (.t 25)), [5, 0, 1, 2, 3, 4], none⟩, ⟨none, (.store 1 (.t 26) (.t 24)), [6, 4, 0, 1, 2, 3, 4], none⟩]) (.seq none (.region false [⟨(some 27), (.load true 5 (.t 3)), [], none⟩, ⟨(some 28),
  (.call 52 [(.k (.one (.d (.int .i64 1)))), (.t 27)]), [0], none⟩, ⟨(some 4), (.alloc [(.int .i64), (.int .i64), .str, (.lst 1), (.lst 1), (.lst 8), (.int .i64), (.int .i64)] [(.d (.int .i64 0)),
  (.d (.int .i64 0)), (.d (.str ⟨#[]⟩)), (.nilL 1), (.nilL 1), (.nilL 8), (.d (.int .i64 0)), (.d (.int .i64 0))]), [], none⟩, ⟨none, (.store 8 (.t 4) (.t 28)), [2, 1, 1, 0, 1, 2],
  none⟩]) (.seq none (.region false [⟨(some 29), (.faddr 2 (.t 3)), [], none⟩, ⟨(some 30), (.load false 1 (.t 29)), [0], none⟩, ⟨(some 31), (.faddr 1 (.t 4)), [0, 1], none⟩, ⟨none,
  (.store 1 (.t 31) (.t 30)), [2, 1, 0, 1], none⟩]) (.seq none (.region false [⟨(some 32), (.load true 8 (.t 4)), [], none⟩, ⟨none, (.store 8 (.t 2) (.t 32)), [0, 0],
  none⟩]) .ret)))) (.seq none (.region false [⟨(some 34), (.faddr 0 (.t 3)), [], none⟩, ⟨(some 35), (.load false 1 (.t 34)), [0], none⟩, ⟨(some 36),
  (.ibin .i64 .eql (.t 35) (.k (.one (.d (.int .i64 1))))), [1], none⟩, ⟨(some 33), (.mov (.t 36)), [2], none⟩]) (.cond (.t 33) (.seq none (.region false [⟨(some 37), (.mov (.t 0)), [], none⟩,
  ⟨(some 38), (.nchk (.t 37)), [0], none⟩, ⟨(some 39), (.faddr 1 (.t 38)), [1], none⟩, ⟨(some 40), (.load false 1 (.t 39)), [2], none⟩, ⟨(some 41),
  (.ibin .i64 .add (.t 40) (.k (.one (.d (.int .i64 1))))), [3], none⟩, ⟨(some 42), (.nchk (.t 37)), [0, 0, 1, 2, 3, 4], none⟩, ⟨(some 43), (.faddr 1 (.t 42)), [5, 0, 1, 2, 3, 4], none⟩, ⟨none,
  (.store 1 (.t 43) (.t 41)), [6, 4, 0, 1, 2, 3, 4], none⟩]) (.seq none (.region false [⟨(some 44), (.load true 5 (.t 3)), [], none⟩, ⟨(some 45), (.call 52 [(.k (.one (.d (.int .i64 3)))), (.t 44)]),
  [0], none⟩, ⟨(some 5), (.alloc [(.int .i64), (.int .i64), .str, (.lst 1), (.lst 1), (.lst 8), (.int .i64), (.int .i64)] [(.d (.int .i64 0)), (.d (.int .i64 0)), (.d (.str ⟨#[]⟩)), (.nilL 1),
  (.nilL 1), (.nilL 8), (.d (.int .i64 0)), (.d (.int .i64 0))]), [], none⟩, ⟨none, (.store 8 (.t 5) (.t 45)), [2, 1, 1, 0, 1, 2], none⟩]) (.seq none (.region false [⟨(some 46), (.faddr 1 (.t 3)), [],
  none⟩, ⟨(some 47), (.load false 1 (.t 46)), [0], none⟩, ⟨(some 48), (.faddr 2 (.t 5)), [0, 1], none⟩, ⟨none, (.store 1 (.t 48) (.t 47)), [2, 1, 0, 1], none⟩]) (.seq (some [2,
  5]) (.seq none (.region false [⟨(some 49), (.mov (.t 0)), [], none⟩, ⟨(some 50), (.call 51 [(.t 49), (.k (.one (.d (.str ⟨#[40]⟩))))]), [0], none⟩]) (.cond (.t 50) (.region false [⟨(some 51),
  (.mov (.t 0)), [], none⟩, ⟨(some 52), (.call 101 [(.t 51), (.k (.one (.d (.str ⟨#[41]⟩))))]), [0], none⟩, ⟨(some 53), (.faddr 0 (.t 5)), [], none⟩, ⟨none,
  (.store 1 (.t 53) (.k (.one (.d (.int .i64 4))))), [2, 1], none⟩, ⟨(some 54), (.faddr 5 (.t 5)), [0, 1, 2, 3], none⟩, ⟨none, (.store 1 (.t 54) (.t 52)), [4, 1, 3, 0, 1, 2, 3],
  none⟩]) .skip)) j94_0)))) (.seq none (.region false [⟨(some 57), (.mov (.t 0)), [], none⟩, ⟨(some 58), (.call 51 [(.t 57), (.k (.one (.d (.str ⟨#[116, 114, 117, 101]⟩))))]), [0], none⟩, ⟨(some 56),
  (.mov (.t 58)), [1, 1], none⟩]) (.cond (.t 56) (.seq none (.region false [⟨(some 59), (.load true 5 (.t 3)), [], none⟩, ⟨(some 60), (.call 52 [(.k (.one (.d (.int .i64 2)))), (.t 59)]), [0], none⟩,
  ⟨(some 6), (.alloc [(.int .i64), (.int .i64), .str, (.lst 1), (.lst 1), (.lst 8), (.int .i64), (.int .i64)] [(.d (.int .i64 0)), (.d (.int .i64 0)), (.d (.str ⟨#[]⟩)), (.nilL 1), (.nilL 1),
  (.nilL 8), (.d (.int .i64 0)), (.d (.int .i64 0))]), [], none⟩, ⟨none, (.store 8 (.t 6) (.t 60)), [2, 1, 1, 0, 1, 2], none⟩]) (.seq none (.region false [⟨(some 61), (.faddr 1 (.t 6)), [], none⟩,
  ⟨none, (.store 1 (.t 61) (.k (.one (.d (.int .i64 1))))), [0], none⟩]) (.seq none (.region false [⟨(some 62), (.load true 8 (.t 6)), [], none⟩, ⟨none, (.store 8 (.t 2) (.t 62)), [0, 0],
  none⟩]) .ret))) (.seq none (.region false [⟨(some 64), (.mov (.t 0)), [], none⟩, ⟨(some 65), (.call 51 [(.t 64), (.k (.one (.d (.str ⟨#[102, 97, 108, 115, 101]⟩))))]), [0], none⟩, ⟨(some 63),
  (.mov (.t 65)), [1, 1], none⟩]) (.cond (.t 63) (.seq none (.region false [⟨(some 66), (.load true 5 (.t 3)), [], none⟩, ⟨(some 67), (.call 52 [(.k (.one (.d (.int .i64 2)))), (.t 66)]), [0], none⟩,
  ⟨none, (.store 8 (.t 2) (.t 67)), [1, 1, 0, 1], none⟩]) .ret) (.seq none (.region false [⟨(some 69), (.mov (.t 0)), [], none⟩, ⟨(some 70), (.call 51 [(.t 69), (.k (.one (.d (.str ⟨#[40]⟩))))]), [0],
  none⟩, ⟨(some 68), (.mov (.t 70)), [1, 1], none⟩]) (.cond (.t 68) (.seq none (.region false [⟨(some 71), (.mov (.t 0)), [], none⟩, ⟨(some 72), (.call 24 [(.t 71)]), [0], none⟩, ⟨(some 7),
  (.alloc [(.int .i64), (.int .i64), .str, (.lst 1), (.lst 1), (.lst 8), (.int .i64), (.int .i64)] [(.d (.int .i64 0)), (.d (.int .i64 0)), (.d (.str ⟨#[]⟩)), (.nilL 1), (.nilL 1), (.nilL 8),
  (.d (.int .i64 0)), (.d (.int .i64 0))]), [], none⟩, ⟨none, (.store 8 (.t 7) (.t 72)), [2, 1, 1, 0, 1, 2], none⟩]) (.seq (some [0, 2, 3, 7]) (.seq none (.region false [⟨(some 73), (.mov (.t 0)), [],
  none⟩, ⟨(some 74), (.call 51 [(.t 73), (.k (.one (.d (.str ⟨#[41]⟩))))]), [0], none⟩]) (.cond (.t 74) (.seq none (.region false [⟨(some 75), (.load true 8 (.t 7)), [], none⟩, ⟨none,
  (.store 8 (.t 2) (.t 75)), [0, 0], none⟩]) .ret) .skip)) j94_1)) (.seq none (.region false [⟨(some 103), (.mov (.t 0)), [], none⟩, ⟨(some 104), (.call 51 [(.t 103),
  (.k (.one (.d (.str ⟨#[91]⟩))))]), [0], none⟩, ⟨(some 102), (.mov (.t 104)), [1, 1], none⟩]) (.cond (.t 102) (.seq none (.region false [⟨(some 105), (.load true 5 (.t 3)), [], none⟩, ⟨(some 106),
  (.call 52 [(.k (.one (.d (.int .i64 6)))), (.t 105)]), [0], none⟩, ⟨(some 9), (.alloc [(.int .i64), (.int .i64), .str, (.lst 1), (.lst 1), (.lst 8), (.int .i64), (.int .i64)] [(.d (.int .i64 0)),
  (.d (.int .i64 0)), (.d (.str ⟨#[]⟩)), (.nilL 1), (.nilL 1), (.nilL 8), (.d (.int .i64 0)), (.d (.int .i64 0))]), [], none⟩, ⟨none, (.store 8 (.t 9) (.t 106)), [2, 1, 1, 0, 1, 2],
  none⟩]) (.seq none (.region false [⟨(some 107), (.mov (.t 0)), [], none⟩, ⟨(some 108), (.call 101 [(.t 107), (.k (.one (.d (.str ⟨#[93]⟩))))]), [0], none⟩, ⟨(some 109), (.faddr 5 (.t 9)), [0, 1],
  none⟩, ⟨none, (.store 1 (.t 109) (.t 108)), [2, 1, 1, 0, 1], none⟩]) (.seq none (.region false [⟨(some 110), (.load true 8 (.t 9)), [], none⟩, ⟨none, (.store 8 (.t 2) (.t 110)), [0, 0],
  none⟩]) .ret))) (.seq none (.region false [⟨(some 112), (.mov (.t 0)), [], none⟩, ⟨(some 113), (.call 51 [(.t 112), (.k (.one (.d (.str ⟨#[112, 105, 99, 107]⟩))))]), [0], none⟩, ⟨(some 111),
  (.mov (.t 113)), [1, 1], none⟩]) (.cond (.t 111) (.seq none (.region false [⟨(some 114), (.load true 5 (.t 3)), [], none⟩, ⟨(some 115), (.call 52 [(.k (.one (.d (.int .i64 13)))), (.t 114)]), [0],
  none⟩, ⟨(some 10), (.alloc [(.int .i64), (.int .i64), .str, (.lst 1), (.lst 1), (.lst 8), (.int .i64), (.int .i64)] [(.d (.int .i64 0)), (.d (.int .i64 0)), (.d (.str ⟨#[]⟩)), (.nilL 1), (.nilL 1),
  (.nilL 8), (.d (.int .i64 0)), (.d (.int .i64 0))]), [], none⟩, ⟨none, (.store 8 (.t 10) (.t 115)), [2, 1, 1, 0, 1, 2], none⟩]) (.seq none (.region false [⟨(some 116), (.mov (.t 0)), [], none⟩,
  ⟨(some 117), (.call 54 [(.t 116), (.k (.one (.d (.str ⟨#[123]⟩))))]), [0], none⟩]) (.block 3 (.loop [0, 2, 10] lb94_1)))) (.seq none (.region false [⟨(some 142), (.mov (.t 0)), [], none⟩,
  ⟨(some 143), (.call 51 [(.t 142), (.k (.one (.d (.str ⟨#[102, 108, 105, 112]⟩))))]), [0], none⟩, ⟨(some 141), (.mov (.t 143)), [1, 1], none⟩]) (.cond (.t 141) (.seq none (.region false [⟨(some 144),
  (.load true 5 (.t 3)), [], none⟩, ⟨(some 145), (.call 52 [(.k (.one (.d (.int .i64 14)))), (.t 144)]), [0], none⟩, ⟨(some 11), (.alloc [(.int .i64), (.int .i64), .str, (.lst 1), (.lst 1), (.lst 8),
  (.int .i64), (.int .i64)] [(.d (.int .i64 0)), (.d (.int .i64 0)), (.d (.str ⟨#[]⟩)), (.nilL 1), (.nilL 1), (.nilL 8), (.d (.int .i64 0)), (.d (.int .i64 0))]), [], none⟩, ⟨none,
  (.store 8 (.t 11) (.t 145)), [2, 1, 1, 0, 1, 2], none⟩]) (.seq none (.region false [⟨(some 146), (.mov (.t 0)), [], none⟩, ⟨(some 147), (.call 54 [(.t 146), (.k (.one (.d (.str ⟨#[40]⟩))))]), [0],
  none⟩]) (.seq none (.region false [⟨(some 148), (.mov (.t 0)), [], none⟩, ⟨(some 149), (.call 55 [(.t 148)]), [0], none⟩, ⟨(some 150), (.faddr 4 (.t 11)), [0, 1], none⟩, ⟨none,
  (.store 1 (.t 150) (.t 149)), [2, 1, 1, 0, 1], none⟩]) (.seq none (.region false [⟨(some 151), (.mov (.t 0)), [], none⟩, ⟨(some 152), (.call 54 [(.t 151), (.k (.one (.d (.str ⟨#[41]⟩))))]), [0],
  none⟩]) (.seq none (.region false [⟨(some 153), (.load true 8 (.t 11)), [], none⟩, ⟨none, (.store 8 (.t 2) (.t 153)), [0, 0], none⟩]) .ret))))) (.seq none (.region false [⟨(some 155), (.mov (.t 0)),
  [], none⟩, ⟨(some 156), (.call 51 [(.t 155), (.k (.one (.d (.str ⟨#[114, 97, 110, 103, 101]⟩))))]), [0], none⟩, ⟨(some 154), (.mov (.t 156)), [1, 1],
  none⟩]) (.cond (.t 154) (.seq none (.region false [⟨(some 157), (.load true 5 (.t 3)), [], none⟩, ⟨(some 158), (.call 52 [(.k (.one (.d (.int .i64 15)))), (.t 157)]), [0], none⟩, ⟨(some 12),
  (.alloc [(.int .i64), (.int .i64), .str, (.lst 1), (.lst 1), (.lst 8), (.int .i64), (.int .i64)] [(.d (.int .i64 0)), (.d (.int .i64 0)), (.d (.str ⟨#[]⟩)), (.nilL 1), (.nilL 1), (.nilL 8),
  (.d (.int .i64 0)), (.d (.int .i64 0))]), [], none⟩, ⟨none, (.store 8 (.t 12) (.t 158)), [2, 1, 1, 0, 1, 2], none⟩]) (.seq none (.region false [⟨(some 159), (.mov (.t 0)), [], none⟩, ⟨(some 160),
  (.call 54 [(.t 159), (.k (.one (.d (.str ⟨#[40]⟩))))]), [0], none⟩]) (.seq none (.region false [⟨(some 161), (.mov (.t 0)), [], none⟩, ⟨(some 162), (.call 102 [(.t 161)]), [0], none⟩, ⟨(some 13),
  (.mov (.t 162)), [1, 1, 0, 1], none⟩]) (.seq none (.region false [⟨(some 163), (.mov (.t 0)), [], none⟩, ⟨(some 164), (.call 54 [(.t 163), (.k (.one (.d (.str ⟨#[44]⟩))))]), [0],
  none⟩]) (.seq none (.region false [⟨(some 165), (.mov (.t 13)), [], none⟩, ⟨(some 166), (.mov (.t 0)), [], none⟩, ⟨(some 167), (.call 102 [(.t 166)]), [1], none⟩, ⟨(some 168), (.lit 3 1 [(.t 165),
  (.t 167)]), [0, 2], none⟩, ⟨(some 169), (.faddr 4 (.t 12)), [0, 1, 2, 3], none⟩, ⟨none, (.store 1 (.t 169) (.t 168)), [4, 3, 2, 0, 1, 2, 3], none⟩]) (.seq none (.region false [⟨(some 170),
  (.mov (.t 0)), [], none⟩, ⟨(some 171), (.call 54 [(.t 170), (.k (.one (.d (.str ⟨#[41]⟩))))]), [0], none⟩]) (.seq none (.region false [⟨(some 172), (.load true 8 (.t 12)), [], none⟩, ⟨none,
  (.store 8 (.t 2) (.t 172)), [0, 0], none⟩]) .ret))))))) .skip))))))))))))))))))) j94_4)))⟩
theorem c94 : compFunc Try.prog [none, none, some [0, 2], none, none, none, none, none, none, none, none, none, some [2, 5], none, none, none, none, none, none, none, none, none, none, some [0, 2, 3, 7], none, none, none, none, none, none, some [0, 2, 8], some [0, 2, 8], some [0, 2, 8], none, none, none, none, none, none, none, none, none, none, some [0, 2, 10], none, none, none, none, none, none, none, none, none, none, none, none, none, none, none, none, none, none, none, none, none, none] Try.f94 = some sf94 := by kernel_rfl
/-! slices.Contains[[]string,string] -/
def sf95 : SFunc :=
  ⟨2, [(.tmp 4)], (.seq none (.region false [⟨(some 4), (.mov (.k (.one (.d (.bool false))))), [], none⟩]) (.seq none (.region false [⟨(some 5), (.mov (.t 0)), [], none⟩, ⟨(some 6), (.mov (.t 1)), [],
  none⟩, ⟨(some 7), (.call 103 [(.t 5), (.t 6)]), [0, 1], none⟩, ⟨(some 8), (.ibin .i64 .geq (.t 7) (.k (.one (.d (.int .i64 0))))), [2], none⟩, ⟨(some 4), (.mov (.t 8)), [3, 2, 0, 1, 2, 3],
  none⟩]) .ret))⟩
theorem c95 : compFunc Try.prog [none, none] Try.f95 = some sf95 := by kernel_rfl
/-! internal/stringslite.HasPrefix -/
def sf99 : SFunc :=
  ⟨2, [(.tmp 4)], (.seq none (.region false [⟨(some 4), (.mov (.k (.one (.d (.bool false))))), [], none⟩]) (.seq none (.region false [⟨(some 5), (.mov (.t 0)), [], none⟩, ⟨(some 6), (.len true (.t 5)),
  [0], none⟩, ⟨(some 7), (.mov (.t 1)), [], none⟩, ⟨(some 8), (.len true (.t 7)), [2], none⟩, ⟨(some 9), (.ibin .i64 .geq (.t 6) (.t 8)), [1, 3], none⟩, ⟨(some 10), (.mov (.t 9)), [4], none⟩,
  ⟨(some 11), (.mov (.t 0)), [5], (some (5, (10, true)))⟩, ⟨(some 12), (.mov (.t 1)), [5], (some (5, (10, true)))⟩, ⟨(some 13), (.len true (.t 12)), [7, 5], (some (5, (10, true)))⟩, ⟨(some 14),
  (.sub (.t 11) none (some (.t 13))), [6, 8, 5], (some (5, (10, true)))⟩, ⟨(some 15), (.mov (.t 1)), [5], (some (5, (10, true)))⟩, ⟨(some 16), (.sbin .eql (.t 14) (.t 15)), [9, 10, 5], (some (5, (10,
  true)))⟩, ⟨(some 17), (.pick (.t 10) (.t 16) (.k (.one (.d (.bool false))))), [5, 11], none⟩, ⟨(some 4), (.mov (.t 17)), [12, 5, 0, 1, 2, 3, 4, 5, 6, 7, 8, 9, 10, 11, 12], none⟩]) .ret))⟩
theorem c99 : compFunc Try.prog [none, none] Try.f99 = some sf99 := by kernel_rfl
/-! (*sortilege/parser.reader).list -/
def j101_1 : SCode :=
  (.block 1 (.region false [⟨(some 17), (.mov (.t 5)), [], none⟩, ⟨(some 18), (.mov (.t 0)), [], none⟩, ⟨(some 19), (.call 24 [(.t 18)]), [1], none⟩, ⟨(some 20), (.lit 27 8 [(.t 19)]), [2], none⟩,
  ⟨(some 21), (.app 27 8 120 (.t 17) (.t 20)), [0, 3, 2], none⟩, ⟨(some 5), (.mov (.t 21)), [4, 4, 0, 1, 2, 3, 4], none⟩]))
def lb101_0 : SCode :=
  (.seq (some [0, 1, 5]) (.seq none (.region false [⟨(some 15), (.mov (.t 0)), [], none⟩, ⟨(some 16), (.call 51 [(.t 15), (.k (.one (.d (.str ⟨#[44]⟩))))]), [0],
  none⟩]) (.cond (.t 16) .skip (.exit 0))) j101_1)
def j101_2 : SCode :=
  (.seq none (.region false [⟨(some 22), (.mov (.t 0)), [], none⟩, ⟨(some 23), (.mov (.t 1)), [], none⟩, ⟨(some 24), (.call 54 [(.t 22), (.t 23)]), [0, 1], none⟩]) (.seq none (.region false [⟨(some 25),
  (.mov (.t 5)), [], none⟩, ⟨(some 4), (.mov (.t 25)), [0, 0], none⟩]) .ret))
def j101_0 : SCode :=
  (.seq none (.region false [⟨(some 10), (.mov (.t 5)), [], none⟩, ⟨(some 11), (.mov (.t 0)), [], none⟩, ⟨(some 12), (.call 24 [(.t 11)]), [1], none⟩, ⟨(some 13), (.lit 27 8 [(.t 12)]), [2], none⟩,
  ⟨(some 14), (.app 27 8 120 (.t 10) (.t 13)), [0, 3, 2], none⟩, ⟨(some 5), (.mov (.t 14)), [4, 4, 0, 1, 2, 3, 4], none⟩]) (.seq (some [0, 1, 5]) (.block 0 (.loop [0, 1, 5] lb101_0)) j101_2))
def sf101 : SFunc :=
  ⟨2, [(.tmp 4)], (.seq none (.region false [⟨(some 4), (.mov (.k (.one (.nilL 8)))), [], none⟩]) (.seq none (.region false [⟨(some 5), (.mov (.k (.one (.nilL 8)))), [], none⟩]) (.seq (some [0, 1,
  5]) (.seq none (.region false [⟨(some 6), (.mov (.t 0)), [], none⟩, ⟨(some 7), (.mov (.t 1)), [], none⟩, ⟨(some 8), (.call 51 [(.t 6), (.t 7)]), [0, 1],
  none⟩]) (.cond (.t 8) (.seq none (.region false [⟨(some 9), (.mov (.t 5)), [], none⟩, ⟨(some 4), (.mov (.t 9)), [0, 0], none⟩]) .ret) .skip)) j101_0)))⟩
theorem c101 : compFunc Try.prog [none, none, some [0, 1, 5], none, none, none, some [0, 1, 5], some [0, 1, 5], some [0, 1, 5], none, none, none] Try.f101 = some sf101 := by kernel_rfl
/-! (*sortilege/parser.reader).bound -/
def j102_0 : SCode :=
  (.seq none (.region false [⟨(some 9), (.mov (.t 0)), [], none⟩, ⟨(some 10), (.call 53 [(.t 9), (.k (.one (.d (.int .i64 3))))]), [0], none⟩, ⟨(some 11), (.field false 2 1 (.t 10)), [1], none⟩,
  ⟨(some 2), (.mov (.t 11)), [2, 1, 0, 1, 2], none⟩]) .ret)
def sf102 : SFunc :=
  ⟨1, [(.tmp 2)], (.seq none (.region false [⟨(some 2), (.mov (.k (.one (.d (.int .i64 0))))), [], none⟩]) (.seq (some [0]) (.seq none (.region false [⟨(some 3), (.mov (.t 0)), [], none⟩, ⟨(some 4),
  (.call 51 [(.t 3), (.k (.one (.d (.str ⟨#[45]⟩))))]), [0], none⟩]) (.cond (.t 4) (.seq none (.region false [⟨(some 5), (.mov (.t 0)), [], none⟩, ⟨(some 6), (.call 53 [(.t 5),
  (.k (.one (.d (.int .i64 3))))]), [0], none⟩, ⟨(some 7), (.field false 2 1 (.t 6)), [1], none⟩, ⟨(some 8), (.ineg .i64 (.t 7)), [2], none⟩, ⟨(some 2), (.mov (.t 8)), [3, 1, 0, 1, 2, 3],
  none⟩]) .ret) .skip)) j102_0))⟩
theorem c102 : compFunc Try.prog [none, some [0], none, none, none] Try.f102 = some sf102 := by kernel_rfl
/-! slices.Index[[]string,string] -/
def j103_1 : SCode :=
  (.region false [⟨(some 18), (.ibin .i64 .add (.t 8) (.k (.one (.d (.int .i64 1))))), [], none⟩, ⟨(some 8), (.mov (.t 18)), [0], none⟩])
def j103_0 : SCode :=
  (.seq (some [0, 1, 7, 8]) (.block 1 (.seq none (.region false [⟨(some 10), (.mov (.t 8)), [], none⟩, ⟨(some 5), (.mov (.t 10)), [0, 0], none⟩]) (.seq none (.region false [⟨(some 11), (.mov (.t 1)),
  [], none⟩, ⟨(some 12), (.mov (.t 0)), [], none⟩, ⟨(some 13), (.mov (.t 5)), [], none⟩, ⟨(some 14), (.iaddr 1 (.t 12) (.t 13)), [1, 2], none⟩, ⟨(some 15), (.load false 1 (.t 14)), [3], none⟩,
  ⟨(some 16), (.sbin .eql (.t 11) (.t 15)), [0, 4], none⟩]) (.cond (.t 16) (.seq none (.region false [⟨(some 17), (.mov (.t 5)), [], none⟩, ⟨(some 4), (.mov (.t 17)), [0, 0],
  none⟩]) .ret) .skip)))) j103_1)
def lb103_0 : SCode :=
  (.seq none (.region false [⟨(some 9), (.ibin .i64 .lss (.t 8) (.t 7)), [], none⟩]) (.seq (some [0, 1, 7, 8]) (.cond (.t 9) .skip (.exit 0)) j103_0))
def j103_2 : SCode :=
  (.seq none (.region false [⟨(some 4), (.mov (.k (.one (.d (.int .i64 (-1)))))), [], none⟩]) .ret)
def sf103 : SFunc :=
  ⟨2, [(.tmp 4)], (.seq none (.region false [⟨(some 4), (.mov (.k (.one (.d (.int .i64 0))))), [], none⟩]) (.seq (some []) (.seq none (.region false [⟨(some 6), (.mov (.t 0)), [], none⟩, ⟨(some 7),
  (.len false (.t 6)), [0], none⟩, ⟨(some 8), (.mov (.k (.one (.d (.int .i64 0))))), [], none⟩]) (.block 0 (.loop [0, 1, 7, 8] lb103_0))) j103_2))⟩
theorem c103 : compFunc Try.prog [none, some [], none, some [0, 1, 7, 8], none, some [0, 1, 7, 8], some [0, 1, 7, 8], none, none, none, none] Try.f103 = some sf103 := by kernel_rfl
end Go.Proofs.Ytbmcafehpgimfaa.Ps
