/- The functions of the program: the lists. Printed by genp.py. -/
import Derived.Test.YtaphnbaiamnfpaaDoorPuA
namespace Go.Proofs.YtaphnbaiamnfpaaDoor.Ps
set_option maxRecDepth 100000
open Go Go.RowKit
def progL : List (Nat × SFunc) := [(5, sf5), (8, sf8), (9, sf9), (11, sf11), (13, sf13), (14, sf14), (16, sf16), (17, sf17), (23, sf23), (24, sf24), (25, sf25), (26, sf26), (27, sf27), (28, sf28), (32, sf32), (34, sf34), (35, sf35), (36, sf36), (38, sf38), (48, sf48), (49, sf49), (50, sf50), (55, sf55), (57, sf57), (58, sf58), (60, sf60), (61, sf61), (62, sf62), (70, sf70), (71, sf71), (73, sf73), (86, sf86), (87, sf87), (89, sf89), (90, sf90), (95, sf95), (100, sf100), (107, sf107), (112, sf112)]
def shpL : List (Nat × Sh) := [(0, .none), (1, .none), (2, .none), (3, (.one .bool)), (4, (.one .bool)), (5, (.one .bool)), (6, (.one .bool)), (7, (.one .bool)), (8, (.one .bool)), (9, (.one .bool)), (10, (.one .bool)), (11, (.one .bool)), (12, (.one .bool)), (13, (.one .bool)), (14, (.tup [(.one .str), (.one (.int .i64))])), (15, (.tup [(.one .str), (.one (.int .i64))])), (16, (.agg [(.int .i64), (.int .i64), .str, (.lst 1), (.lst 1), (.lst 8), (.int .i64), (.int .i64)])), (17, (.tup [(.one (.lst 5)), (.agg [(.int .i64), .str, (.int .i64), (.int .i64)])])), (18, (.one (.lst 2))), (19, (.tup [(.agg [(.int .i64), (.int .i64), .str, (.lst 1), (.lst 1), (.lst 8), (.int .i64), (.int .i64)]), (.agg [(.int .i64), .str, (.int .i64), (.int .i64)])])), (20, (.one .str)), (21, (.one .bool)), (22, (.one .bool)), (23, (.agg [(.int .i64), (.int .i64), .str, (.lst 1), (.lst 1), (.lst 8), (.int .i64), (.int .i64)])), (24, (.agg [(.int .i64), (.int .i64), .str, (.lst 1), (.lst 1), (.lst 8), (.int .i64), (.int .i64)])), (25, (.tup [(.one .str), (.one (.int .i64))])), (26, (.one .bool)), (27, (.one .bool)), (28, (.one .bool)), (29, (.one .bool)), (30, (.one .bool)), (31, (.one .bool)), (32, (.one .bool)), (33, (.one .bool)), (34, (.one (.int .i64))), (35, .none), (36, (.tup [(.one .str), (.one (.int .i64))])), (37, (.one .str)), (38, (.tup [(.agg [(.int .i64), .str, (.int .i64), (.int .i64), (.int .i64)]), (.one (.int .i64))])), (39, (.agg [(.int .i64), .str, (.int .i64), (.int .i64)])), (40, .none), (41, (.agg [(.int .i64), (.int .i64), .str, (.lst 1), (.lst 1), (.lst 8), (.int .i64), (.int .i64)])), (42, (.agg [(.int .i64), .str, (.int .i64), (.int .i64)])), (43, (.one .str)), (44, (.one .bool)), (45, (.one .bool)), (46, (.one .bool)), (47, (.one (.int .i64))), (48, .none), (49, (.one .str)), (50, (.one .bool)), (51, (.one .bool)), (52, (.one .bool)), (53, (.one .bool)), (54, (.one .bool)), (55, (.one .bool)), (56, (.one .bool)), (57, (.one (.int .i64))), (58, (.one (.int .i64))), (59, (.one .str)), (60, (.one .str)), (61, .none), (62, .none), (63, (.one .str)), (64, (.one .str)), (65, (.one .str)), (66, (.one .str)), (67, (.one .str)), (68, (.one .str)), (69, (.one .str)), (70, (.one .bool)), (71, (.one .bool)), (72, (.one .bool)), (73, (.one .str)), (74, .none), (75, (.agg [(.int .i64), .str, (.int .i64), (.int .i64), (.int .i64)])), (76, .none), (77, (.one .bool)), (78, (.agg [.int .i64, .int .i64, .str, .nil 1, .nil 1, .nil 8, .int .i64, .int .i64])), (79, (.agg [(.int .i64), .str, (.int .i64), (.int .i64), (.int .i64)])), (80, .none), (81, (.one (.lst 1))), (82, (.agg [(.int .i64), (.int .i64), .str, (.lst 1), (.lst 1), (.lst 8), (.int .i64), (.int .i64)])), (83, (.tup [(.agg [(.int .i64), (.int .i64), .str, (.lst 1), (.lst 1), (.lst 8), (.int .i64), (.int .i64)]), (.one .bool)])), (84, .none), (85, (.tup [(.one (.int .i64)), (.one .any)])), (86, (.one .bool)), (87, (.one .bool)), (88, (.one (.lst 1))), (89, (.one (.int .i64))), (90, (.one .bool)), (91, (.one (.int .i64))), (92, (.one .bool)), (93, (.one .bool)), (94, (.one .str)), (95, (.one .str)), (96, (.one .str)), (97, (.one .str)), (98, (.one .str)), (99, (.one (.int .i64))), (100, (.one .bool)), (101, (.one (.int .i64))), (102, (.one .bool)), (103, (.agg [(.int .i64), (.int .i64), .str, (.lst 1), (.lst 1), (.lst 8), (.int .i64), (.int .i64)])), (104, (.one .str)), (105, .none), (106, .none), (107, (.one (.int .i64))), (108, (.one .str)), (109, (.one .str)), (110, (.one (.int .i64))), (111, (.one (.int .i64))), (112, (.one .bool)), (113, (.one (.int .i64))), (114, (.agg [(.int .i64), (.int .i64), .str, (.lst 1), (.lst 1), (.lst 8), (.int .i64), (.int .i64)])), (115, (.one .bool)), (116, (.one .any)), (117, (.one (.lst 1))), (118, (.one .str)), (119, (.one (.int .i64))), (120, .none), (121, (.tup [(.one (.lst 1)), (.one .str)])), (122, (.one (.int .i64))), (123, (.one (.int .i64))), (124, (.one (.int .i64))), (125, (.one (.int .i64))), (126, (.one (.lst 8))), (127, (.one (.int .i64))), (128, (.one (.int .i64))), (129, (.one (.int .i64))), (130, (.one (.int .i64))), (131, (.one (.int .i64))), (132, (.one .bool)), (133, (.one (.int .i64))), (134, (.tup [(.one (.int .u32)), (.one (.int .u32))])), (135, (.one (.int .i64))), (136, (.one (.int .i64))), (137, (.one .str)), (138, .none), (139, (.one .str)), (140, .none), (141, (.one .str)), (142, .none), (143, (.one .str)), (144, .none), (145, (.one .str)), (146, .none), (147, (.one .str)), (148, .none), (149, (.one (.int .i64))), (150, (.one .str)), (151, .none), (152, .none), (153, (.one .str)), (154, .none), (155, .none), (156, .none), (157, .none), (158, .none), (159, .none)]
def findF {α : Type} (f : Nat) : List (Nat × α) → Option α
  | [] => none
  | (g, x) :: r => cond (Nat.beq g f) (some x) (findF f r)
def prog (f : FuncId) : Option SFunc := findF f progL
def shp (f : FuncId) : Sh := match findF f shpL with | some s => s | none => .none
/-- The function that takes up a panic, and of which type. -/
def rcL : List (Nat × Nat) := [(74, 43)]
def rc (f : FuncId) : Option TypeId := findF f rcL
theorem prog_ok : ∀ x, x ∈ progL → ∃ F lv, Tryd.prog.funcs[x.1]? = some F ∧ compFunc Tryd.prog lv F = some x.2 := by
  intro x hx
  simp only [progL, List.mem_cons, List.not_mem_nil, or_false] at hx
  rcases hx with rfl | rfl | rfl | rfl | rfl | rfl | rfl | rfl | rfl | rfl | rfl | rfl | rfl | rfl | rfl | rfl | rfl | rfl | rfl | rfl | rfl | rfl | rfl | rfl | rfl | rfl | rfl | rfl | rfl | rfl | rfl | rfl | rfl | rfl | rfl | rfl | rfl | rfl | rfl
  · exact ⟨_, _, Tryd.func5, c5⟩
  · exact ⟨_, _, Tryd.func8, c8⟩
  · exact ⟨_, _, Tryd.func9, c9⟩
  · exact ⟨_, _, Tryd.func11, c11⟩
  · exact ⟨_, _, Tryd.func13, c13⟩
  · exact ⟨_, _, Tryd.func14, c14⟩
  · exact ⟨_, _, Tryd.func16, c16⟩
  · exact ⟨_, _, Tryd.func17, c17⟩
  · exact ⟨_, _, Tryd.func23, c23⟩
  · exact ⟨_, _, Tryd.func24, c24⟩
  · exact ⟨_, _, Tryd.func25, c25⟩
  · exact ⟨_, _, Tryd.func26, c26⟩
  · exact ⟨_, _, Tryd.func27, c27⟩
  · exact ⟨_, _, Tryd.func28, c28⟩
  · exact ⟨_, _, Tryd.func32, c32⟩
  · exact ⟨_, _, Tryd.func34, c34⟩
  · exact ⟨_, _, Tryd.func35, c35⟩
  · exact ⟨_, _, Tryd.func36, c36⟩
  · exact ⟨_, _, Tryd.func38, c38⟩
  · exact ⟨_, _, Tryd.func48, c48⟩
  · exact ⟨_, _, Tryd.func49, c49⟩
  · exact ⟨_, _, Tryd.func50, c50⟩
  · exact ⟨_, _, Tryd.func55, c55⟩
  · exact ⟨_, _, Tryd.func57, c57⟩
  · exact ⟨_, _, Tryd.func58, c58⟩
  · exact ⟨_, _, Tryd.func60, c60⟩
  · exact ⟨_, _, Tryd.func61, c61⟩
  · exact ⟨_, _, Tryd.func62, c62⟩
  · exact ⟨_, _, Tryd.func70, c70⟩
  · exact ⟨_, _, Tryd.func71, c71⟩
  · exact ⟨_, _, Tryd.func73, c73⟩
  · exact ⟨_, _, Tryd.func86, c86⟩
  · exact ⟨_, _, Tryd.func87, c87⟩
  · exact ⟨_, _, Tryd.func89, c89⟩
  · exact ⟨_, _, Tryd.func90, c90⟩
  · exact ⟨_, _, Tryd.func95, c95⟩
  · exact ⟨_, _, Tryd.func100, c100⟩
  · exact ⟨_, _, Tryd.func107, c107⟩
  · exact ⟨_, _, Tryd.func112, c112⟩
end Go.Proofs.YtaphnbaiamnfpaaDoor.Ps
