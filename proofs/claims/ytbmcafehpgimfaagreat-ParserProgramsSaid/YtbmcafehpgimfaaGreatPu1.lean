/- The functions of the program: the lists. Printed by genp.py. -/
import Derived.Test.YtbmcafehpgimfaaGreatPuA
import Derived.Test.YtbmcafehpgimfaaGreatPuB
namespace Go.Proofs.YtbmcafehpgimfaaGreat.Ps
set_option maxRecDepth 100000
open Go Go.RowKit
def progL : List (Nat × SFunc) := [(3, sf3), (4, sf4), (5, sf5), (6, sf6), (7, sf7), (8, sf8), (9, sf9), (10, sf10), (11, sf11), (12, sf12), (13, sf13), (14, sf14), (15, sf15), (16, sf16), (17, sf17), (18, sf18), (19, sf19), (20, sf20), (21, sf21), (22, sf22), (23, sf23), (24, sf24), (25, sf25), (26, sf26), (27, sf27), (28, sf28), (29, sf29), (30, sf30), (31, sf31), (32, sf32), (33, sf33), (35, sf35), (36, sf36), (37, sf37), (38, sf38), (39, sf39), (40, sf40), (41, sf41), (42, sf42), (43, sf43), (44, sf44), (45, sf45), (46, sf46), (47, sf47), (48, sf48), (49, sf49), (50, sf50), (51, sf51), (52, sf52), (53, sf53), (54, sf54), (55, sf55), (56, sf56), (57, sf57), (58, sf58), (59, sf59), (60, sf60), (61, sf61), (62, sf62), (63, sf63), (64, sf64), (65, sf65), (66, sf66), (67, sf67), (68, sf68), (69, sf69), (70, sf70), (71, sf71), (72, sf72), (73, sf73), (74, sf74), (75, sf75), (76, sf76), (77, sf77), (78, sf78), (80, sf80), (81, sf81), (82, sf82), (83, sf83), (84, sf84), (85, sf85), (87, sf87), (89, sf89), (90, sf90), (91, sf91), (92, sf92), (94, sf94), (96, sf96), (101, sf101), (103, sf103), (104, sf104), (105, sf105), (106, sf106), (107, sf107), (108, sf108)]
def shpL : List (Nat × Sh) := [(0, .none), (1, .none), (2, .none), (3, (.one .bool)), (4, (.one .bool)), (5, (.tup [(.agg [(.lst 5), (.lst 14), (.int .i64), (.int .i64), .str, (.lst 1), (.lst 1), (.lst 8), (.int .i64), (.int .i64)]), (.agg [(.int .i64), .str, (.int .i64), (.int .i64)])])), (6, (.tup [(.agg [(.lst 5), (.lst 14), (.int .i64), (.int .i64), .str, (.lst 1), (.lst 1), (.lst 8), (.int .i64), (.int .i64)]), (.agg [(.int .i64), .str, (.int .i64), (.int .i64)])])), (7, (.one .bool)), (8, (.tup [(.agg [(.int .i64), (.int .i64), .str, (.lst 1), (.lst 1), (.lst 8), (.int .i64), (.int .i64)]), (.agg [(.int .i64), .str, (.int .i64), (.int .i64)])])), (9, (.one .bool)), (10, (.one .bool)), (11, (.agg [(.int .i64), .str, (.int .i64), (.int .i64)])), (12, .none), (13, (.agg [(.lst 5), (.lst 14), (.int .i64), (.int .i64), .str, (.lst 1), (.lst 1), (.lst 8), (.int .i64), (.int .i64)])), (14, (.agg [(.int .i64), .str, (.int .i64), (.int .i64)])), (15, (.tup [(.one (.lst 5)), (.agg [(.int .i64), .str, (.int .i64), (.int .i64)])])), (16, (.agg [(.lst 5), (.lst 14), (.int .i64), (.int .i64), .str, (.lst 1), (.lst 1), (.lst 8), (.int .i64), (.int .i64)])), (17, (.agg [(.int .i64), .str, (.int .i64), (.int .i64)])), (18, (.tup [(.agg [(.int .i64), .str, (.int .i64), (.int .i64)]), (.one .bool)])), (19, (.one .bool)), (20, (.one .bool)), (21, (.one .bool)), (22, .none), (23, (.agg [(.int .i64), (.int .i64), .str, (.lst 1), (.lst 1), (.lst 8), (.int .i64), (.int .i64)])), (24, (.agg [(.int .i64), .str, (.int .i64), (.int .i64)])), (25, (.one .bool)), (26, (.one .bool)), (27, (.one .bool)), (28, (.one .bool)), (29, (.one .bool)), (30, (.one .bool)), (31, (.one .bool)), (32, (.one .bool)), (33, (.tup [(.one (.lst 5)), (.agg [(.int .i64), .str, (.int .i64), (.int .i64)])])), (35, (.agg [(.int .i64), .str, (.int .i64), (.int .i64), (.int .i64)])), (36, .none), (37, (.one .bool)), (38, (.agg [.str, (.int .i64), (.lst 2), (.int .i64), (.int .i64)])), (39, .none), (40, (.agg [.str, (.lst 5), (.int .i64), (.lst 2), (.int .i64), (.int .i64), .str, (.lst 1), (.lst 1), (.lst 8), (.int .i64), (.int .i64), (.int .i64), (.int .i64)])), (41, (.agg [(.int .i64), .str, (.int .i64), (.int .i64)])), (42, (.one (.int .i64))), (43, (.tup [(.agg [(.int .i64), .str, (.int .i64), (.int .i64), (.int .i64)]), (.one (.int .i64))])), (44, (.one .bool)), (45, (.agg [.str, (.int .i64), (.lst 2), (.int .i64), (.int .i64)])), (46, .none), (47, (.one .bool)), (48, (.agg [.str, (.lst 5), (.int .i64), (.lst 2), (.int .i64), (.int .i64), .str, (.lst 1), (.lst 1), (.lst 8), (.int .i64), (.int .i64), (.int .i64), (.int .i64)])), (49, (.agg [(.int .i64), (.int .i64), .str, (.lst 1), (.lst 1), (.lst 8), (.int .i64), (.int .i64)])), (50, (.tup [(.agg [(.int .i64), .str, (.int .i64), (.int .i64)]), (.one .bool)])), (51, (.one .bool)), (52, (.tup [(.agg [(.int .i64), .str, (.int .i64), (.int .i64)]), (.one .bool)])), (53, (.agg [.int .i64, .int .i64, .str, .nil 1, .nil 1, .nil 8, .int .i64, .int .i64])), (54, (.agg [(.int .i64), .str, (.int .i64), (.int .i64), (.int .i64)])), (55, (.one (.lst 1))), (56, (.agg [(.int .i64), (.int .i64), .str, (.lst 1), (.lst 1), (.lst 8), (.int .i64), (.int .i64)])), (57, (.tup [(.agg [(.int .i64), (.int .i64), .str, (.lst 1), (.lst 1), (.lst 8), (.int .i64), (.int .i64)]), (.one .bool)])), (58, (.one .bool)), (59, (.tup [(.agg [(.int .i64), .str, (.int .i64), (.int .i64), (.int .i64)]), (.one (.int .i64))])), (60, (.one .bool)), (61, (.agg [(.int .i64), (.lst 2)])), (62, (.one .bool)), (63, (.one .bool)), (64, (.one .bool)), (65, (.tup [(.one (.int .i64)), (.one .bool)])), (66, (.one .str)), (67, (.agg [(.int .i64), .str, (.int .i64), (.int .i64), (.int .i64)])), (68, (.agg [(.int .i64), .str, (.int .i64), (.int .i64), (.int .i64)])), (69, (.agg [(.int .i64), (.lst 2)])), (70, (.agg [.int .i64, .int .i64, .str, .nil 1, .nil 1, .nil 8, .int .i64, .int .i64])), (71, (.agg [.int .i64, .int .i64, .str, .lst 1, .lst 1, .own 29 8, .int .i64, .int .i64])), (72, (.agg [(.int .i64), (.int .i64), .str, (.lst 1), (.lst 1), (.lst 8), (.int .i64), (.int .i64)])), (73, (.one (.lst 1))), (74, (.agg [(.int .i64), (.int .i64), .str, (.lst 1), (.lst 1), (.lst 8), (.int .i64), (.int .i64)])), (75, (.agg [(.int .i64), (.int .i64), .str, (.lst 1), (.lst 1), (.lst 8), (.int .i64), (.int .i64)])), (76, (.one .str)), (77, (.one .bool)), (78, (.one .bool)), (79, (.one .bool)), (80, (.one .str)), (81, (.one (.lst 1))), (82, (.agg [(.int .i64), (.int .i64), .str, (.lst 1), (.lst 1), (.lst 8), (.int .i64), (.int .i64)])), (83, (.agg [.int .i64, .int .i64, .str, .lst 1, .lst 1, .own 29 8, .int .i64, .int .i64])), (84, (.agg [(.int .i64), (.int .i64), .str, (.lst 1), (.lst 1), (.lst 8), (.int .i64), (.int .i64)])), (85, (.one .bool)), (86, (.one (.int .i64))), (87, (.one .bool)), (88, (.one (.int .i64))), (89, (.agg [(.int .i64), (.int .i64), .str, (.lst 1), (.lst 1), (.lst 8), (.int .i64), (.int .i64)])), (90, (.one (.lst 8))), (91, (.one (.int .i64))), (92, (.one (.int .i64))), (93, (.one (.int .i64))), (94, (.one .bool)), (95, (.one (.int .i64))), (96, (.agg [(.int .i64), (.int .i64), .str, (.lst 1), (.lst 1), (.lst 8), (.int .i64), (.int .i64)])), (97, (.one (.int .i64))), (98, (.one (.int .i64))), (99, (.one (.int .i64))), (100, (.one (.int .i64))), (101, (.agg [(.int .i64), (.int .i64), .str, (.lst 1), (.lst 1), (.lst 8), (.int .i64), (.int .i64)])), (102, (.tup [(.one (.int .u32)), (.one (.int .u32))])), (103, (.agg [(.int .i64), (.int .i64), .str, (.lst 1), (.lst 1), (.lst 8), (.int .i64), (.int .i64)])), (104, (.agg [(.int .i64), (.int .i64), .str, (.lst 1), (.lst 1), (.lst 8), (.int .i64), (.int .i64)])), (105, (.agg [(.int .i64), (.int .i64), .str, (.lst 1), (.lst 1), (.lst 8), (.int .i64), (.int .i64)])), (106, (.one (.lst 8))), (107, (.agg [(.int .i64), (.int .i64), .str, (.lst 1), (.lst 1), (.lst 8), (.int .i64), (.int .i64)])), (108, (.one (.int .i64))), (109, (.one .str)), (110, .none), (111, (.one .str)), (112, .none), (113, (.one .str)), (114, .none), (115, (.one .str)), (116, .none), (117, (.one .str)), (118, .none), (119, (.one .str)), (120, .none), (121, (.one (.int .i64))), (122, (.one .str)), (123, .none), (124, (.one .str))]
def findF {α : Type} (f : Nat) : List (Nat × α) → Option α
  | [] => none
  | (g, x) :: r => cond (Nat.beq g f) (some x) (findF f r)
def prog (f : FuncId) : Option SFunc := findF f progL
def shp (f : FuncId) : Sh := match findF f shpL with | some s => s | none => .none
/-- The function that takes up a panic, and of which type. -/
def rcL : List (Nat × Nat) := [(34, 34)]
def rc (f : FuncId) : Option TypeId := findF f rcL
theorem prog_ok : ∀ x, x ∈ progL → ∃ F lv, Tryz.prog.funcs[x.1]? = some F ∧ compFunc Tryz.prog lv F = some x.2 := by
  intro x hx
  simp only [progL, List.mem_cons, List.not_mem_nil, or_false] at hx
  rcases hx with rfl | rfl | rfl | rfl | rfl | rfl | rfl | rfl | rfl | rfl | rfl | rfl | rfl | rfl | rfl | rfl | rfl | rfl | rfl | rfl | rfl | rfl | rfl | rfl | rfl | rfl | rfl | rfl | rfl | rfl | rfl | rfl | rfl | rfl | rfl | rfl | rfl | rfl | rfl | rfl | rfl | rfl | rfl | rfl | rfl | rfl | rfl | rfl | rfl | rfl | rfl | rfl | rfl | rfl | rfl | rfl | rfl | rfl | rfl | rfl | rfl | rfl | rfl | rfl | rfl | rfl | rfl | rfl | rfl | rfl | rfl | rfl | rfl | rfl | rfl | rfl | rfl | rfl | rfl | rfl | rfl | rfl | rfl | rfl | rfl | rfl | rfl | rfl | rfl | rfl | rfl | rfl | rfl | rfl | rfl
  · exact ⟨_, _, Tryz.func3, c3⟩
  · exact ⟨_, _, Tryz.func4, c4⟩
  · exact ⟨_, _, Tryz.func5, c5⟩
  · exact ⟨_, _, Tryz.func6, c6⟩
  · exact ⟨_, _, Tryz.func7, c7⟩
  · exact ⟨_, _, Tryz.func8, c8⟩
  · exact ⟨_, _, Tryz.func9, c9⟩
  · exact ⟨_, _, Tryz.func10, c10⟩
  · exact ⟨_, _, Tryz.func11, c11⟩
  · exact ⟨_, _, Tryz.func12, c12⟩
  · exact ⟨_, _, Tryz.func13, c13⟩
  · exact ⟨_, _, Tryz.func14, c14⟩
  · exact ⟨_, _, Tryz.func15, c15⟩
  · exact ⟨_, _, Tryz.func16, c16⟩
  · exact ⟨_, _, Tryz.func17, c17⟩
  · exact ⟨_, _, Tryz.func18, c18⟩
  · exact ⟨_, _, Tryz.func19, c19⟩
  · exact ⟨_, _, Tryz.func20, c20⟩
  · exact ⟨_, _, Tryz.func21, c21⟩
  · exact ⟨_, _, Tryz.func22, c22⟩
  · exact ⟨_, _, Tryz.func23, c23⟩
  · exact ⟨_, _, Tryz.func24, c24⟩
  · exact ⟨_, _, Tryz.func25, c25⟩
  · exact ⟨_, _, Tryz.func26, c26⟩
  · exact ⟨_, _, Tryz.func27, c27⟩
  · exact ⟨_, _, Tryz.func28, c28⟩
  · exact ⟨_, _, Tryz.func29, c29⟩
  · exact ⟨_, _, Tryz.func30, c30⟩
  · exact ⟨_, _, Tryz.func31, c31⟩
  · exact ⟨_, _, Tryz.func32, c32⟩
  · exact ⟨_, _, Tryz.func33, c33⟩
  · exact ⟨_, _, Tryz.func35, c35⟩
  · exact ⟨_, _, Tryz.func36, c36⟩
  · exact ⟨_, _, Tryz.func37, c37⟩
  · exact ⟨_, _, Tryz.func38, c38⟩
  · exact ⟨_, _, Tryz.func39, c39⟩
  · exact ⟨_, _, Tryz.func40, c40⟩
  · exact ⟨_, _, Tryz.func41, c41⟩
  · exact ⟨_, _, Tryz.func42, c42⟩
  · exact ⟨_, _, Tryz.func43, c43⟩
  · exact ⟨_, _, Tryz.func44, c44⟩
  · exact ⟨_, _, Tryz.func45, c45⟩
  · exact ⟨_, _, Tryz.func46, c46⟩
  · exact ⟨_, _, Tryz.func47, c47⟩
  · exact ⟨_, _, Tryz.func48, c48⟩
  · exact ⟨_, _, Tryz.func49, c49⟩
  · exact ⟨_, _, Tryz.func50, c50⟩
  · exact ⟨_, _, Tryz.func51, c51⟩
  · exact ⟨_, _, Tryz.func52, c52⟩
  · exact ⟨_, _, Tryz.func53, c53⟩
  · exact ⟨_, _, Tryz.func54, c54⟩
  · exact ⟨_, _, Tryz.func55, c55⟩
  · exact ⟨_, _, Tryz.func56, c56⟩
  · exact ⟨_, _, Tryz.func57, c57⟩
  · exact ⟨_, _, Tryz.func58, c58⟩
  · exact ⟨_, _, Tryz.func59, c59⟩
  · exact ⟨_, _, Tryz.func60, c60⟩
  · exact ⟨_, _, Tryz.func61, c61⟩
  · exact ⟨_, _, Tryz.func62, c62⟩
  · exact ⟨_, _, Tryz.func63, c63⟩
  · exact ⟨_, _, Tryz.func64, c64⟩
  · exact ⟨_, _, Tryz.func65, c65⟩
  · exact ⟨_, _, Tryz.func66, c66⟩
  · exact ⟨_, _, Tryz.func67, c67⟩
  · exact ⟨_, _, Tryz.func68, c68⟩
  · exact ⟨_, _, Tryz.func69, c69⟩
  · exact ⟨_, _, Tryz.func70, c70⟩
  · exact ⟨_, _, Tryz.func71, c71⟩
  · exact ⟨_, _, Tryz.func72, c72⟩
  · exact ⟨_, _, Tryz.func73, c73⟩
  · exact ⟨_, _, Tryz.func74, c74⟩
  · exact ⟨_, _, Tryz.func75, c75⟩
  · exact ⟨_, _, Tryz.func76, c76⟩
  · exact ⟨_, _, Tryz.func77, c77⟩
  · exact ⟨_, _, Tryz.func78, c78⟩
  · exact ⟨_, _, Tryz.func80, c80⟩
  · exact ⟨_, _, Tryz.func81, c81⟩
  · exact ⟨_, _, Tryz.func82, c82⟩
  · exact ⟨_, _, Tryz.func83, c83⟩
  · exact ⟨_, _, Tryz.func84, c84⟩
  · exact ⟨_, _, Tryz.func85, c85⟩
  · exact ⟨_, _, Tryz.func87, c87⟩
  · exact ⟨_, _, Tryz.func89, c89⟩
  · exact ⟨_, _, Tryz.func90, c90⟩
  · exact ⟨_, _, Tryz.func91, c91⟩
  · exact ⟨_, _, Tryz.func92, c92⟩
  · exact ⟨_, _, Tryz.func94, c94⟩
  · exact ⟨_, _, Tryz.func96, c96⟩
  · exact ⟨_, _, Tryz.func101, c101⟩
  · exact ⟨_, _, Tryz.func103, c103⟩
  · exact ⟨_, _, Tryz.func104, c104⟩
  · exact ⟨_, _, Tryz.func105, c105⟩
  · exact ⟨_, _, Tryz.func106, c106⟩
  · exact ⟨_, _, Tryz.func107, c107⟩
  · exact ⟨_, _, Tryz.func108, c108⟩
end Go.Proofs.YtbmcafehpgimfaaGreat.Ps
