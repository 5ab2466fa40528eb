/- The functions of the program: the lists. Printed by genp.py. -/
import Derived.Test.YtbmcafehpgimfaaPuA
import Derived.Test.YtbmcafehpgimfaaPuB
namespace Go.Proofs.Ytbmcafehpgimfaa.Ps
set_option maxRecDepth 100000
open Go Go.RowKit
def progL : List (Nat × SFunc) := [(3, sf3), (10, sf10), (11, sf11), (12, sf12), (13, sf13), (15, sf15), (17, sf17), (19, sf19), (21, sf21), (22, sf22), (23, sf23), (24, sf24), (25, sf25), (26, sf26), (27, sf27), (28, sf28), (29, sf29), (32, sf32), (33, sf33), (34, sf34), (37, sf37), (38, sf38), (39, sf39), (40, sf40), (41, sf41), (44, sf44), (45, sf45), (46, sf46), (47, sf47), (49, sf49), (50, sf50), (51, sf51), (52, sf52), (53, sf53), (54, sf54), (55, sf55), (56, sf56), (57, sf57), (58, sf58), (59, sf59), (60, sf60), (61, sf61), (62, sf62), (63, sf63), (64, sf64), (65, sf65), (66, sf66), (67, sf67), (68, sf68), (71, sf71), (72, sf72), (73, sf73), (74, sf74), (75, sf75), (76, sf76), (77, sf77), (79, sf79), (80, sf80), (81, sf81), (82, sf82), (83, sf83), (84, sf84), (85, sf85), (86, sf86), (87, sf87), (88, sf88), (89, sf89), (90, sf90), (92, sf92), (94, sf94), (95, sf95), (96, sf96), (97, sf97), (99, sf99), (101, sf101), (102, sf102), (103, sf103), (104, sf104), (109, sf109), (111, sf111), (112, sf112), (113, sf113), (114, sf114), (115, sf115), (116, sf116)]
def shpL : List (Nat × Sh) := [(0, .none), (1, .none), (2, .none), (3, (.one .bool)), (4, (.one .bool)), (5, (.one .bool)), (6, (.one .bool)), (7, (.one .bool)), (8, (.one .bool)), (9, (.one .bool)), (10, (.one .bool)), (11, (.tup [(.agg [(.int .i64), (.int .i64), .str, (.lst 1), (.lst 1), (.lst 8), (.int .i64), (.int .i64)]), (.agg [(.int .i64), .str, (.int .i64), (.int .i64)])])), (12, (.tup [(.agg [(.int .i64), (.int .i64), .str, (.lst 1), (.lst 1), (.lst 8), (.int .i64), (.int .i64)]), (.agg [(.int .i64), .str, (.int .i64), (.int .i64)])])), (13, (.one .bool)), (14, (.one .bool)), (15, (.one .bool)), (16, (.one .bool)), (17, (.one .bool)), (18, (.one .bool)), (19, (.tup [(.agg [(.lst 5), (.lst 14), (.int .i64), (.int .i64), .str, (.lst 1), (.lst 1), (.lst 8), (.int .i64), (.int .i64)]), (.agg [(.int .i64), .str, (.int .i64), (.int .i64)])])), (20, (.one .str)), (21, (.tup [(.one (.lst 5)), (.agg [(.int .i64), .str, (.int .i64), (.int .i64)])])), (22, (.agg [(.int .i64), .str, (.int .i64), (.int .i64)])), (23, .none), (24, (.agg [(.int .i64), (.int .i64), .str, (.lst 1), (.lst 1), (.lst 8), (.int .i64), (.int .i64)])), (25, (.agg [(.int .i64), .str, (.int .i64), (.int .i64)])), (26, (.tup [(.one (.lst 5)), (.agg [(.int .i64), .str, (.int .i64), (.int .i64)])])), (27, (.agg [(.int .i64), (.int .i64), .str, (.lst 1), (.lst 1), (.lst 8), (.int .i64), (.int .i64)])), (28, (.agg [(.int .i64), .str, (.int .i64), (.int .i64)])), (29, (.tup [(.agg [(.int .i64), .str, (.int .i64), (.int .i64)]), (.one .bool)])), (30, (.one .bool)), (31, (.one .bool)), (32, (.one .bool)), (33, (.one .bool)), (34, (.one .bool)), (35, (.one .bool)), (36, (.one .bool)), (37, (.one .bool)), (38, (.one .bool)), (39, (.one .bool)), (40, (.one .bool)), (41, (.one .bool)), (42, (.one .bool)), (43, (.one .bool)), (44, .none), (45, (.agg [(.lst 5), (.lst 14), (.int .i64), (.int .i64), .str, (.lst 1), (.lst 1), (.lst 8), (.int .i64), (.int .i64)])), (46, (.agg [(.int .i64), .str, (.int .i64), (.int .i64)])), (47, (.tup [(.agg [(.int .i64), .str, (.int .i64), (.int .i64), (.int .i64)]), (.one (.int .i64))])), (49, (.agg [(.int .i64), .str, (.int .i64), (.int .i64), (.int .i64)])), (50, .none), (51, (.one .bool)), (52, (.agg [.int .i64, .int .i64, .str, .nil 1, .nil 1, .nil 8, .int .i64, .int .i64])), (53, (.agg [(.int .i64), .str, (.int .i64), (.int .i64), (.int .i64)])), (54, .none), (55, (.one (.lst 1))), (56, (.agg [(.int .i64), (.int .i64), .str, (.lst 1), (.lst 1), (.lst 8), (.int .i64), (.int .i64)])), (57, (.tup [(.agg [(.int .i64), (.int .i64), .str, (.lst 1), (.lst 1), (.lst 8), (.int .i64), (.int .i64)]), (.one .bool)])), (58, (.tup [(.agg [(.int .i64), .str, (.int .i64), (.int .i64), (.int .i64)]), (.one (.int .i64))])), (59, (.one .bool)), (60, (.agg [.int .i64, .int .i64, .str, .nil 1, .nil 1, .nil 8, .int .i64, .int .i64])), (61, (.agg [(.int .i64), .str, (.int .i64), (.int .i64), (.int .i64)])), (62, (.one .bool)), (63, (.agg [(.int .i64), .str, (.int .i64), (.int .i64), (.int .i64)])), (64, .none), (65, (.agg [.int .i64, .int .i64, .str, .lst 1, .lst 1, .own 27 8, .int .i64, .int .i64])), (66, (.agg [(.int .i64), (.int .i64), .str, (.lst 1), (.lst 1), (.lst 8), (.int .i64), (.int .i64)])), (67, (.one (.lst 1))), (68, (.agg [(.int .i64), (.int .i64), .str, (.lst 1), (.lst 1), (.lst 8), (.int .i64), (.int .i64)])), (69, (.one (.int .i64))), (70, (.one (.int .i64))), (71, (.one .bool)), (72, (.agg [.str, (.int .i64), (.lst 2), (.int .i64), (.int .i64)])), (73, (.agg [.str, (.lst 5), (.int .i64), (.lst 2), (.int .i64), (.int .i64), .str, (.lst 1), (.lst 1), (.lst 8), (.int .i64), (.int .i64), (.int .i64), (.int .i64)])), (74, (.agg [(.int .i64), .str, (.int .i64), (.int .i64)])), (75, (.one (.int .i64))), (76, (.one .bool)), (77, (.one .bool)), (78, (.one .bool)), (79, (.one .str)), (80, (.one .bool)), (81, (.agg [(.int .i64), (.int .i64), .str, (.lst 1), (.lst 1), (.lst 8), (.int .i64), (.int .i64)])), (82, (.one .str)), (83, (.one .bool)), (84, (.one .bool)), (85, (.one .bool)), (86, (.tup [(.one (.int .i64)), (.one .bool)])), (87, (.one .str)), (88, (.agg [(.int .i64), (.int .i64), .str, (.lst 1), (.lst 1), (.lst 8), (.int .i64), (.int .i64)])), (89, (.agg [.int .i64, .int .i64, .str, .lst 1, .lst 1, .own 27 8, .int .i64, .int .i64])), (90, (.agg [(.int .i64), (.lst 2)])), (91, (.one (.int .i64))), (92, (.one .bool)), (93, (.one (.int .i64))), (94, (.agg [(.int .i64), (.int .i64), .str, (.lst 1), (.lst 1), (.lst 8), (.int .i64), (.int .i64)])), (95, (.one .bool)), (96, (.one (.lst 1))), (97, (.agg [(.int .i64), (.int .i64), .str, (.lst 1), (.lst 1), (.lst 8), (.int .i64), (.int .i64)])), (98, (.one (.int .i64))), (99, (.one .bool)), (100, (.one (.int .i64))), (101, (.one (.lst 8))), (102, (.one (.int .i64))), (103, (.one (.int .i64))), (104, (.agg [(.int .i64), (.int .i64), .str, (.lst 1), (.lst 1), (.lst 8), (.int .i64), (.int .i64)])), (105, (.one (.int .i64))), (106, (.one (.int .i64))), (107, (.one (.int .i64))), (108, (.one (.int .i64))), (109, (.agg [(.int .i64), (.int .i64), .str, (.lst 1), (.lst 1), (.lst 8), (.int .i64), (.int .i64)])), (110, (.tup [(.one (.int .u32)), (.one (.int .u32))])), (111, (.agg [(.int .i64), (.int .i64), .str, (.lst 1), (.lst 1), (.lst 8), (.int .i64), (.int .i64)])), (112, (.agg [(.int .i64), (.int .i64), .str, (.lst 1), (.lst 1), (.lst 8), (.int .i64), (.int .i64)])), (113, (.agg [(.int .i64), (.int .i64), .str, (.lst 1), (.lst 1), (.lst 8), (.int .i64), (.int .i64)])), (114, (.one (.lst 8))), (115, (.agg [(.int .i64), (.int .i64), .str, (.lst 1), (.lst 1), (.lst 8), (.int .i64), (.int .i64)])), (116, (.one (.int .i64))), (117, (.one .str)), (118, .none), (119, (.one .str)), (120, .none), (121, (.one .str)), (122, .none), (123, (.one .str)), (124, .none), (125, (.one .str)), (126, .none), (127, (.one .str)), (128, .none), (129, (.one (.int .i64))), (130, (.one .str)), (131, .none), (132, (.one .str))]
def findF {α : Type} (f : Nat) : List (Nat × α) → Option α
  | [] => none
  | (g, x) :: r => cond (Nat.beq g f) (some x) (findF f r)
def prog (f : FuncId) : Option SFunc := findF f progL
def shp (f : FuncId) : Sh := match findF f shpL with | some s => s | none => .none
/-- The function that takes up a panic, and of which type. -/
def rcL : List (Nat × Nat) := [(48, 30)]
def rc (f : FuncId) : Option TypeId := findF f rcL
theorem prog_ok : ∀ x, x ∈ progL → ∃ F lv, Try.prog.funcs[x.1]? = some F ∧ compFunc Try.prog lv F = some x.2 := by
  intro x hx
  simp only [progL, List.mem_cons, List.not_mem_nil, or_false] at hx
  rcases hx with rfl | rfl | rfl | rfl | rfl | rfl | rfl | rfl | rfl | rfl | rfl | rfl | rfl | rfl | rfl | rfl | rfl | rfl | rfl | rfl | rfl | rfl | rfl | rfl | rfl | rfl | rfl | rfl | rfl | rfl | rfl | rfl | rfl | rfl | rfl | rfl | rfl | rfl | rfl | rfl | rfl | rfl | rfl | rfl | rfl | rfl | rfl | rfl | rfl | rfl | rfl | rfl | rfl | rfl | rfl | rfl | rfl | rfl | rfl | rfl | rfl | rfl | rfl | rfl | rfl | rfl | rfl | rfl | rfl | rfl | rfl | rfl | rfl | rfl | rfl | rfl | rfl | rfl | rfl | rfl | rfl | rfl | rfl | rfl | rfl
  · exact ⟨_, _, Try.func3, c3⟩
  · exact ⟨_, _, Try.func10, c10⟩
  · exact ⟨_, _, Try.func11, c11⟩
  · exact ⟨_, _, Try.func12, c12⟩
  · exact ⟨_, _, Try.func13, c13⟩
  · exact ⟨_, _, Try.func15, c15⟩
  · exact ⟨_, _, Try.func17, c17⟩
  · exact ⟨_, _, Try.func19, c19⟩
  · exact ⟨_, _, Try.func21, c21⟩
  · exact ⟨_, _, Try.func22, c22⟩
  · exact ⟨_, _, Try.func23, c23⟩
  · exact ⟨_, _, Try.func24, c24⟩
  · exact ⟨_, _, Try.func25, c25⟩
  · exact ⟨_, _, Try.func26, c26⟩
  · exact ⟨_, _, Try.func27, c27⟩
  · exact ⟨_, _, Try.func28, c28⟩
  · exact ⟨_, _, Try.func29, c29⟩
  · exact ⟨_, _, Try.func32, c32⟩
  · exact ⟨_, _, Try.func33, c33⟩
  · exact ⟨_, _, Try.func34, c34⟩
  · exact ⟨_, _, Try.func37, c37⟩
  · exact ⟨_, _, Try.func38, c38⟩
  · exact ⟨_, _, Try.func39, c39⟩
  · exact ⟨_, _, Try.func40, c40⟩
  · exact ⟨_, _, Try.func41, c41⟩
  · exact ⟨_, _, Try.func44, c44⟩
  · exact ⟨_, _, Try.func45, c45⟩
  · exact ⟨_, _, Try.func46, c46⟩
  · exact ⟨_, _, Try.func47, c47⟩
  · exact ⟨_, _, Try.func49, c49⟩
  · exact ⟨_, _, Try.func50, c50⟩
  · exact ⟨_, _, Try.func51, c51⟩
  · exact ⟨_, _, Try.func52, c52⟩
  · exact ⟨_, _, Try.func53, c53⟩
  · exact ⟨_, _, Try.func54, c54⟩
  · exact ⟨_, _, Try.func55, c55⟩
  · exact ⟨_, _, Try.func56, c56⟩
  · exact ⟨_, _, Try.func57, c57⟩
  · exact ⟨_, _, Try.func58, c58⟩
  · exact ⟨_, _, Try.func59, c59⟩
  · exact ⟨_, _, Try.func60, c60⟩
  · exact ⟨_, _, Try.func61, c61⟩
  · exact ⟨_, _, Try.func62, c62⟩
  · exact ⟨_, _, Try.func63, c63⟩
  · exact ⟨_, _, Try.func64, c64⟩
  · exact ⟨_, _, Try.func65, c65⟩
  · exact ⟨_, _, Try.func66, c66⟩
  · exact ⟨_, _, Try.func67, c67⟩
  · exact ⟨_, _, Try.func68, c68⟩
  · exact ⟨_, _, Try.func71, c71⟩
  · exact ⟨_, _, Try.func72, c72⟩
  · exact ⟨_, _, Try.func73, c73⟩
  · exact ⟨_, _, Try.func74, c74⟩
  · exact ⟨_, _, Try.func75, c75⟩
  · exact ⟨_, _, Try.func76, c76⟩
  · exact ⟨_, _, Try.func77, c77⟩
  · exact ⟨_, _, Try.func79, c79⟩
  · exact ⟨_, _, Try.func80, c80⟩
  · exact ⟨_, _, Try.func81, c81⟩
  · exact ⟨_, _, Try.func82, c82⟩
  · exact ⟨_, _, Try.func83, c83⟩
  · exact ⟨_, _, Try.func84, c84⟩
  · exact ⟨_, _, Try.func85, c85⟩
  · exact ⟨_, _, Try.func86, c86⟩
  · exact ⟨_, _, Try.func87, c87⟩
  · exact ⟨_, _, Try.func88, c88⟩
  · exact ⟨_, _, Try.func89, c89⟩
  · exact ⟨_, _, Try.func90, c90⟩
  · exact ⟨_, _, Try.func92, c92⟩
  · exact ⟨_, _, Try.func94, c94⟩
  · exact ⟨_, _, Try.func95, c95⟩
  · exact ⟨_, _, Try.func96, c96⟩
  · exact ⟨_, _, Try.func97, c97⟩
  · exact ⟨_, _, Try.func99, c99⟩
  · exact ⟨_, _, Try.func101, c101⟩
  · exact ⟨_, _, Try.func102, c102⟩
  · exact ⟨_, _, Try.func103, c103⟩
  · exact ⟨_, _, Try.func104, c104⟩
  · exact ⟨_, _, Try.func109, c109⟩
  · exact ⟨_, _, Try.func111, c111⟩
  · exact ⟨_, _, Try.func112, c112⟩
  · exact ⟨_, _, Try.func113, c113⟩
  · exact ⟨_, _, Try.func114, c114⟩
  · exact ⟨_, _, Try.func115, c115⟩
  · exact ⟨_, _, Try.func116, c116⟩
end Go.Proofs.Ytbmcafehpgimfaa.Ps
