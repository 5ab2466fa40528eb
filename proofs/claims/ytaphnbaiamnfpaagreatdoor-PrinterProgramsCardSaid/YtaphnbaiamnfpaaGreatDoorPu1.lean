/- The functions of the program: the lists. Printed by genp.py. -/
import Derived.Test.YtaphnbaiamnfpaaGreatDoorPuA
import Derived.Test.YtaphnbaiamnfpaaGreatDoorPuB
namespace Go.Proofs.YtaphnbaiamnfpaaGreatDoor.Ps
set_option maxRecDepth 100000
open Go Go.RowKit
def progL : List (Nat × SFunc) := [(3, sf3), (6, sf6), (7, sf7), (8, sf8), (9, sf9), (11, sf11), (14, sf14), (17, sf17), (18, sf18), (19, sf19), (20, sf20), (21, sf21), (22, sf22), (23, sf23), (24, sf24), (25, sf25), (26, sf26), (27, sf27), (28, sf28), (29, sf29), (34, sf34), (35, sf35), (36, sf36), (49, sf49), (50, sf50), (51, sf51), (52, sf52), (55, sf55), (57, sf57), (58, sf58), (59, sf59), (61, sf61), (62, sf62), (63, sf63), (64, sf64), (65, sf65), (66, sf66), (67, sf67), (68, sf68), (69, sf69), (70, sf70), (71, sf71), (72, sf72), (82, sf82), (91, sf91), (94, sf94), (96, sf96), (97, sf97), (98, sf98), (99, sf99), (100, sf100), (101, sf101), (102, sf102), (103, sf103), (104, sf104), (105, sf105), (108, sf108), (109, sf109), (112, sf112), (116, sf116), (117, sf117), (118, sf118), (119, sf119), (120, sf120), (121, sf121), (123, sf123), (124, sf124), (132, sf132), (133, sf133), (135, sf135), (146, sf146)]
def shpL : List (Nat × Sh) := [(0, .none), (1, .none), (2, .none), (3, (.one .bool)), (4, (.one .bool)), (5, (.one .bool)), (6, (.one .bool)), (7, (.one .bool)), (8, (.tup [(.one .str), (.one (.int .i64))])), (9, (.tup [(.one .str), (.one (.int .i64))])), (10, (.tup [(.agg [(.lst 5), (.lst 14), (.int .i64), (.int .i64), .str, (.lst 1), (.lst 1), (.lst 8), (.int .i64), (.int .i64)]), (.agg [(.int .i64), .str, (.int .i64), (.int .i64)])])), (11, (.one .bool)), (12, (.one .bool)), (13, (.one .bool)), (14, (.tup [(.one .str), (.one (.int .i64))])), (15, (.tup [(.agg [(.int .i64), (.int .i64), .str, (.lst 1), (.lst 1), (.lst 8), (.int .i64), (.int .i64)]), (.agg [(.int .i64), .str, (.int .i64), (.int .i64)])])), (16, (.one .bool)), (17, (.one .bool)), (18, (.one .bool)), (19, (.agg [(.int .i64), (.int .i64), .str, (.lst 1), (.lst 1), (.lst 8), (.int .i64), (.int .i64)])), (20, (.agg [(.int .i64), (.int .i64), .str, (.lst 1), (.lst 1), (.lst 8), (.int .i64), (.int .i64)])), (21, (.one .bool)), (22, .none), (23, (.one .str)), (24, .none), (25, (.tup [(.one .str), (.one (.int .i64))])), (26, (.one .bool)), (27, (.one .str)), (28, (.one .str)), (29, (.one .str)), (30, (.agg [(.int .i64), .str, (.int .i64), (.int .i64)])), (31, .none), (32, (.agg [(.lst 5), (.lst 14), (.int .i64), (.int .i64), .str, (.lst 1), (.lst 1), (.lst 8), (.int .i64), (.int .i64)])), (33, (.agg [(.int .i64), .str, (.int .i64), (.int .i64)])), (34, (.one .bool)), (35, (.one .bool)), (36, (.one .bool)), (37, (.one .bool)), (38, (.one .bool)), (39, (.one .bool)), (40, (.one .bool)), (41, (.one .bool)), (42, (.one .bool)), (43, .none), (44, (.agg [(.int .i64), (.int .i64), .str, (.lst 1), (.lst 1), (.lst 8), (.int .i64), (.int .i64)])), (45, (.agg [(.int .i64), .str, (.int .i64), (.int .i64)])), (46, (.one .bool)), (47, (.one .bool)), (48, (.one .bool)), (49, (.one (.int .i64))), (50, (.one (.int .i64))), (51, (.one .bool)), (52, (.one (.int .i64))), (53, (.tup [(.one (.int .i64)), (.one .any)])), (54, (.one .str)), (55, (.one (.int .i64))), (56, (.one .str)), (57, (.one .str)), (58, .none), (59, .none), (60, (.one .str)), (61, (.one .bool)), (62, (.one .bool)), (63, (.one .bool)), (64, (.one .bool)), (65, (.one .str)), (66, (.one .str)), (67, (.one .str)), (68, (.one .str)), (69, (.one .str)), (70, (.one .str)), (71, (.one .str)), (72, (.tup [(.one (.lst 5)), (.agg [(.int .i64), .str, (.int .i64), (.int .i64)])])), (73, .none), (74, (.agg [(.int .i64), .str, (.int .i64), (.int .i64), (.int .i64)])), (75, .none), (76, (.one .bool)), (77, (.agg [.str, (.int .i64), (.lst 2), (.int .i64), (.int .i64)])), (78, .none), (79, (.agg [.str, (.lst 5), (.int .i64), (.lst 2), (.int .i64), (.int .i64), .str, (.lst 1), (.lst 1), (.lst 8), (.int .i64), (.int .i64), (.int .i64), (.int .i64)])), (80, (.agg [(.int .i64), .str, (.int .i64), (.int .i64)])), (81, (.one (.int .i64))), (82, (.one .bool)), (83, (.one .bool)), (84, (.one .bool)), (85, (.one .bool)), (86, (.agg [.int .i64, .int .i64, .str, .nil 1, .nil 1, .nil 8, .int .i64, .int .i64])), (87, (.agg [(.int .i64), .str, (.int .i64), (.int .i64), (.int .i64)])), (88, (.one (.lst 1))), (89, (.agg [(.int .i64), (.int .i64), .str, (.lst 1), (.lst 1), (.lst 8), (.int .i64), (.int .i64)])), (90, (.tup [(.agg [(.int .i64), (.int .i64), .str, (.lst 1), (.lst 1), (.lst 8), (.int .i64), (.int .i64)]), (.one .bool)])), (91, (.one .bool)), (92, .none), (93, .none), (94, (.one (.int .i64))), (95, (.one .str)), (96, (.one .str)), (97, (.one .bool)), (98, (.one .bool)), (99, (.one .bool)), (100, (.one .bool)), (101, (.one .bool)), (102, (.one .str)), (103, (.one (.int .i64))), (104, (.one .str)), (105, (.tup [(.agg [(.int .i64), .str, (.int .i64), (.int .i64), (.int .i64)]), (.one (.int .i64))])), (106, (.one .bool)), (107, (.agg [(.int .i64), (.lst 2)])), (108, (.one .bool)), (109, (.one .bool)), (110, (.agg [(.int .i64), (.int .i64), .str, (.lst 1), (.lst 1), (.lst 8), (.int .i64), (.int .i64)])), (111, (.one .str)), (112, (.one .bool)), (113, (.one .any)), (114, .none), (115, (.one .str)), (116, (.one (.lst 1))), (117, (.one .bool)), (118, (.one .str)), (119, (.one (.int .i64))), (120, (.one .bool)), (121, (.one .bool)), (122, (.one .bool)), (123, (.one .str)), (124, (.one (.int .i64))), (125, (.agg [(.int .i64), (.int .i64), .str, (.lst 1), (.lst 1), (.lst 8), (.int .i64), (.int .i64)])), (126, (.one .bool)), (127, (.one (.lst 1))), (128, (.one .str)), (129, (.one (.int .i64))), (130, .none), (131, (.tup [(.one (.lst 1)), (.one .str)])), (132, (.one .bool)), (133, (.one .bool)), (134, (.one (.int .i64))), (135, (.one .bool)), (136, (.one (.int .i64))), (137, (.one (.lst 8))), (138, (.one (.int .i64))), (139, (.one (.int .i64))), (140, (.one (.int .i64))), (141, (.one (.int .i64))), (142, (.one (.int .i64))), (143, (.one .bool)), (144, (.one (.int .i64))), (145, (.one (.int .i64))), (146, (.one .bool)), (147, (.one (.int .i64))), (148, (.one (.int .i64))), (149, (.one (.int .i64))), (150, (.one (.int .i64))), (151, (.one (.int .i64))), (152, (.one (.int .i64))), (153, (.one (.int .i64))), (154, (.tup [(.one (.int .u32)), (.one (.int .u32))])), (155, (.one .str)), (156, .none), (157, (.one .str)), (158, .none), (159, (.one .str)), (160, .none), (161, (.one .str)), (162, .none), (163, (.one .str)), (164, .none), (165, (.one .str)), (166, .none), (167, (.one (.int .i64))), (168, (.one .str)), (169, .none), (170, .none), (171, (.one .str)), (172, .none), (173, .none), (174, .none), (175, .none), (176, .none), (177, .none)]
def findF {α : Type} (f : Nat) : List (Nat × α) → Option α
  | [] => none
  | (g, x) :: r => cond (Nat.beq g f) (some x) (findF f r)
def prog (f : FuncId) : Option SFunc := findF f progL
def shp (f : FuncId) : Sh := match findF f shpL with | some s => s | none => .none
/-- The function that takes up a panic, and of which type. -/
def rcL : List (Nat × Nat) := [(73, 38)]
def rc (f : FuncId) : Option TypeId := findF f rcL
theorem prog_ok : ∀ x, x ∈ progL → ∃ F lv, Tryz.prog.funcs[x.1]? = some F ∧ compFunc Tryz.prog lv F = some x.2 := by
  intro x hx
  simp only [progL, List.mem_cons, List.not_mem_nil, or_false] at hx
  rcases hx with rfl | rfl | rfl | rfl | rfl | rfl | rfl | rfl | rfl | rfl | rfl | rfl | rfl | rfl | rfl | rfl | rfl | rfl | rfl | rfl | rfl | rfl | rfl | rfl | rfl | rfl | rfl | rfl | rfl | rfl | rfl | rfl | rfl | rfl | rfl | rfl | rfl | rfl | rfl | rfl | rfl | rfl | rfl | rfl | rfl | rfl | rfl | rfl | rfl | rfl | rfl | rfl | rfl | rfl | rfl | rfl | rfl | rfl | rfl | rfl | rfl | rfl | rfl | rfl | rfl | rfl | rfl | rfl | rfl | rfl | rfl
  · exact ⟨_, _, Tryz.func3, c3⟩
  · exact ⟨_, _, Tryz.func6, c6⟩
  · exact ⟨_, _, Tryz.func7, c7⟩
  · exact ⟨_, _, Tryz.func8, c8⟩
  · exact ⟨_, _, Tryz.func9, c9⟩
  · exact ⟨_, _, Tryz.func11, c11⟩
  · exact ⟨_, _, Tryz.func14, c14⟩
  · exact ⟨_, _, Tryz.func17, c17⟩
  · exact ⟨_, _, Tryz.func18, c18⟩
  · exact ⟨_, _, Tryz.func19, c19⟩
  · exact ⟨_, _, Tryz.func20, c20⟩
  · exact ⟨_, _, Tryz.func21, c21⟩
  · exact ⟨_, _, Tryz.func22, c22⟩
  · exact ⟨_, _, Tryz.func23, c23⟩
  · exact ⟨_, _, Tryz.func24, c24⟩
  · exact ⟨_, _, Tryz.func25, c25⟩
  · exact ⟨_, _, Tryz.func26, c26⟩
  · exact ⟨_, _, Tryz.func27, c27⟩
  · exact ⟨_, _, Tryz.func28, c28⟩
  · exact ⟨_, _, Tryz.func29, c29⟩
  · exact ⟨_, _, Tryz.func34, c34⟩
  · exact ⟨_, _, Tryz.func35, c35⟩
  · exact ⟨_, _, Tryz.func36, c36⟩
  · exact ⟨_, _, Tryz.func49, c49⟩
  · exact ⟨_, _, Tryz.func50, c50⟩
  · exact ⟨_, _, Tryz.func51, c51⟩
  · exact ⟨_, _, Tryz.func52, c52⟩
  · exact ⟨_, _, Tryz.func55, c55⟩
  · exact ⟨_, _, Tryz.func57, c57⟩
  · exact ⟨_, _, Tryz.func58, c58⟩
  · exact ⟨_, _, Tryz.func59, c59⟩
  · exact ⟨_, _, Tryz.func61, c61⟩
  · exact ⟨_, _, Tryz.func62, c62⟩
  · exact ⟨_, _, Tryz.func63, c63⟩
  · exact ⟨_, _, Tryz.func64, c64⟩
  · exact ⟨_, _, Tryz.func65, c65⟩
  · exact ⟨_, _, Tryz.func66, c66⟩
  · exact ⟨_, _, Tryz.func67, c67⟩
  · exact ⟨_, _, Tryz.func68, c68⟩
  · exact ⟨_, _, Tryz.func69, c69⟩
  · exact ⟨_, _, Tryz.func70, c70⟩
  · exact ⟨_, _, Tryz.func71, c71⟩
  · exact ⟨_, _, Tryz.func72, c72⟩
  · exact ⟨_, _, Tryz.func82, c82⟩
  · exact ⟨_, _, Tryz.func91, c91⟩
  · exact ⟨_, _, Tryz.func94, c94⟩
  · exact ⟨_, _, Tryz.func96, c96⟩
  · exact ⟨_, _, Tryz.func97, c97⟩
  · exact ⟨_, _, Tryz.func98, c98⟩
  · exact ⟨_, _, Tryz.func99, c99⟩
  · exact ⟨_, _, Tryz.func100, c100⟩
  · exact ⟨_, _, Tryz.func101, c101⟩
  · exact ⟨_, _, Tryz.func102, c102⟩
  · exact ⟨_, _, Tryz.func103, c103⟩
  · exact ⟨_, _, Tryz.func104, c104⟩
  · exact ⟨_, _, Tryz.func105, c105⟩
  · exact ⟨_, _, Tryz.func108, c108⟩
  · exact ⟨_, _, Tryz.func109, c109⟩
  · exact ⟨_, _, Tryz.func112, c112⟩
  · exact ⟨_, _, Tryz.func116, c116⟩
  · exact ⟨_, _, Tryz.func117, c117⟩
  · exact ⟨_, _, Tryz.func118, c118⟩
  · exact ⟨_, _, Tryz.func119, c119⟩
  · exact ⟨_, _, Tryz.func120, c120⟩
  · exact ⟨_, _, Tryz.func121, c121⟩
  · exact ⟨_, _, Tryz.func123, c123⟩
  · exact ⟨_, _, Tryz.func124, c124⟩
  · exact ⟨_, _, Tryz.func132, c132⟩
  · exact ⟨_, _, Tryz.func133, c133⟩
  · exact ⟨_, _, Tryz.func135, c135⟩
  · exact ⟨_, _, Tryz.func146, c146⟩
end Go.Proofs.YtaphnbaiamnfpaaGreatDoor.Ps
