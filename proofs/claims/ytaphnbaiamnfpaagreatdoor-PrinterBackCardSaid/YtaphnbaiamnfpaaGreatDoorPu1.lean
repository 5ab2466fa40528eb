/- The functions of the program: the lists. Printed by genp.py. -/
import Derived.Test.YtaphnbaiamnfpaaGreatDoorPuA
import Derived.Test.YtaphnbaiamnfpaaGreatDoorPuB
namespace Go.Proofs.YtaphnbaiamnfpaaGreatDoor.Ps
set_option maxRecDepth 100000
open Go Go.RowKit
def kBm:List (Nat × SFunc):=[(5,sf5),(6,sf6),(7,sf7),(8,sf8),(10,sf10),(11,sf11),(13,sf13),(14,sf14),(15,sf15),(16,sf16),(17,sf17),(18,sf18),(19,sf19),(20,sf20),(21,sf21),(22,sf22),(23,sf23),(24,sf24),(25,sf25),(30,sf30),(31,sf31),(32,sf32),(33,sf33),(34,sf34),(35,sf35),(36,sf36),(38,sf38),(39,sf39),(40,sf40),(41,sf41),(42,sf42),(43,sf43),(44,sf44),(45,sf45),(46,sf46),(47,sf47),(48,sf48),(49,sf49),(50,sf50),(51,sf51),(52,sf52),(55,sf55),(57,sf57),(58,sf58),(59,sf59),(72,sf72),(74,sf74),(75,sf75),(76,sf76),(77,sf77),(78,sf78),(79,sf79),(80,sf80),(81,sf81),(82,sf82),(85,sf85),(86,sf86),(87,sf87),(88,sf88),(89,sf89),(90,sf90),(91,sf91),(94,sf94),(96,sf96),(105,ke2),(106,kBe),(107,kl5),(108,kBf),(109,kBg),(110,kuT),(111,kr7),(112,kl6),(120,kBh),(121,kBi),(123,kk1),(124,kl7),(125,kgE),(126,kBj),(135,kBk),(137,kmb),(138,kuU),(139,kmc),(146,kBl)]
def shpL:List (Nat × Sh):=[(0,.none),(1,.none),(2,.none),(3,(.one .bool)),(4,(.one .bool)),(5,(.one .bool)),(6,(.one .bool)),(7,(.one .bool)),(8,(.tup [(.one .str),(.one (.int .i64))])),(9,(.tup [(.one .str),(.one (.int .i64))])),(10,(.tup [(.agg [(.lst 5),(.lst 14),(.int .i64),(.int .i64),.str,(.lst 1),(.lst 1),(.lst 8),(.int .i64),(.int .i64)]),(.agg [(.int .i64),.str,(.int .i64),(.int .i64)])])),(11,(.one .bool)),(12,(.one .bool)),(13,(.one .bool)),(14,(.tup [(.one .str),(.one (.int .i64))])),(15,(.tup [(.agg [(.int .i64),(.int .i64),.str,(.lst 1),(.lst 1),(.lst 8),(.int .i64),(.int .i64)]),(.agg [(.int .i64),.str,(.int .i64),(.int .i64)])])),(16,(.one .bool)),(17,(.one .bool)),(18,(.one .bool)),(19,(.agg [(.int .i64),(.int .i64),.str,(.lst 1),(.lst 1),(.lst 8),(.int .i64),(.int .i64)])),(20,(.agg [(.int .i64),(.int .i64),.str,(.lst 1),(.lst 1),(.lst 8),(.int .i64),(.int .i64)])),(21,(.one .bool)),(22,.none),(23,(.one .str)),(24,.none),(25,(.tup [(.one .str),(.one (.int .i64))])),(26,(.one .bool)),(27,(.one .str)),(28,(.one .str)),(29,(.one .str)),(30,(.agg [(.int .i64),.str,(.int .i64),(.int .i64)])),(31,.none),(32,(.agg [(.lst 5),(.lst 14),(.int .i64),(.int .i64),.str,(.lst 1),(.lst 1),(.lst 8),(.int .i64),(.int .i64)])),(33,(.agg [(.int .i64),.str,(.int .i64),(.int .i64)])),(34,(.one .bool)),(35,(.one .bool)),(36,(.one .bool)),(37,(.one .bool)),(38,(.one .bool)),(39,(.one .bool)),(40,(.one .bool)),(41,(.one .bool)),(42,(.one .bool)),(43,.none),(44,(.agg [(.int .i64),(.int .i64),.str,(.lst 1),(.lst 1),(.lst 8),(.int .i64),(.int .i64)])),(45,(.agg [(.int .i64),.str,(.int .i64),(.int .i64)])),(46,(.one .bool)),(47,(.one .bool)),(48,(.one .bool)),(49,(.one (.int .i64))),(50,(.one (.int .i64))),(51,(.one .bool)),(52,(.one (.int .i64))),(53,(.tup [(.one (.int .i64)),(.one .any)])),(54,(.one .str)),(55,(.one (.int .i64))),(56,(.one .str)),(57,(.one .str)),(58,.none),(59,.none),(60,(.one .str)),(61,(.one .bool)),(62,(.one .bool)),(63,(.one .bool)),(64,(.one .bool)),(65,(.one .str)),(66,(.one .str)),(67,(.one .str)),(68,(.one .str)),(69,(.one .str)),(70,(.one .str)),(71,(.one .str)),(72,(.tup [(.one (.lst 5)),(.agg [(.int .i64),.str,(.int .i64),(.int .i64)])])),(74,(.agg [(.int .i64),.str,(.int .i64),(.int .i64),(.int .i64)])),(75,.none),(76,(.one .bool)),(77,(.agg [.str,(.int .i64),(.lst 2),(.int .i64),(.int .i64)])),(78,.none),(79,(.agg [.str,(.lst 5),(.int .i64),(.lst 2),(.int .i64),(.int .i64),.str,(.lst 1),(.lst 1),(.lst 8),(.int .i64),(.int .i64),(.int .i64),(.int .i64)])),(80,(.agg [(.int .i64),.str,(.int .i64),(.int .i64)])),(81,(.one (.int .i64))),(82,(.one .bool)),(83,(.one .bool)),(84,(.one .bool)),(85,(.one .bool)),(86,(.agg [.int .i64,.int .i64,.str,.nil 1,.nil 1,.nil 8,.int .i64,.int .i64])),(87,(.agg [(.int .i64),.str,(.int .i64),(.int .i64),(.int .i64)])),(88,(.one (.lst 1))),(89,(.agg [(.int .i64),(.int .i64),.str,(.lst 1),(.lst 1),(.lst 8),(.int .i64),(.int .i64)])),(90,(.tup [(.agg [(.int .i64),(.int .i64),.str,(.lst 1),(.lst 1),(.lst 8),(.int .i64),(.int .i64)]),(.one .bool)])),(91,(.one .bool)),(92,.none),(93,.none),(94,(.one (.int .i64))),(95,(.one .str)),(96,(.one .str)),(97,(.one .bool)),(98,(.one .bool)),(99,(.one .bool)),(100,(.one .bool)),(101,(.one .bool)),(102,(.one .str)),(103,(.one (.int .i64))),(104,(.one .str)),(105,(.tup [(.agg [(.int .i64),.str,(.int .i64),(.int .i64),(.int .i64)]),(.one (.int .i64))])),(106,(.one .bool)),(107,(.agg [(.int .i64),(.lst 2)])),(108,(.one .bool)),(109,(.one .bool)),(110,(.agg [(.int .i64),(.int .i64),.str,(.lst 1),(.lst 1),(.lst 8),(.int .i64),(.int .i64)])),(111,(.one .str)),(112,(.one .bool)),(113,(.one .any)),(114,.none),(115,(.one .str)),(116,(.one (.lst 1))),(117,(.one .bool)),(118,(.one .str)),(119,(.one (.int .i64))),(120,(.one .bool)),(121,(.one .bool)),(122,(.one .bool)),(123,(.one .str)),(124,(.one (.int .i64))),(125,(.agg [(.int .i64),(.int .i64),.str,(.lst 1),(.lst 1),(.lst 8),(.int .i64),(.int .i64)])),(126,(.one .bool)),(127,(.one (.lst 1))),(128,(.one .str)),(129,(.one (.int .i64))),(130,.none),(131,(.tup [(.one (.lst 1)),(.one .str)])),(132,(.one .bool)),(133,(.one .bool)),(134,(.one (.int .i64))),(135,(.one .bool)),(136,(.one (.int .i64))),(137,(.one (.lst 8))),(138,(.one (.int .i64))),(139,(.one (.int .i64))),(140,(.one (.int .i64))),(141,(.one (.int .i64))),(142,(.one (.int .i64))),(143,(.one .bool)),(144,(.one (.int .i64))),(145,(.one (.int .i64))),(146,(.one .bool)),(147,(.one (.int .i64))),(148,(.one (.int .i64))),(149,(.one (.int .i64))),(150,(.one (.int .i64))),(151,(.one (.int .i64))),(152,(.one (.int .i64))),(153,(.one (.int .i64))),(154,(.tup [(.one (.int .u32)),(.one (.int .u32))])),(155,(.one .str)),(156,.none),(157,(.one .str)),(158,.none),(159,(.one .str)),(160,.none),(161,(.one .str)),(162,.none),(163,(.one .str)),(164,.none),(165,(.one .str)),(166,.none),(167,(.one (.int .i64))),(168,(.one .str)),(169,.none),(170,.none),(171,(.one .str)),(172,.none),(173,.none),(174,.none),(175,.none),(176,.none),(177,.none)]
def kpJ {α:Type} (f:Nat):List (Nat × α)->Option α
 | []=>none
 | (g,x) :: r=>cond (Nat.beq g f) (some x) (kpJ f r)
def prog (f:FuncId):Option SFunc:=kpJ f kBm
def shp (f:FuncId):Sh:=match kpJ f shpL with | some s=>s | none=>.none
/-- The function that takes up a panic, and of which type. -/
def rcL:List (Nat × Nat):=[(73,38)]
def rc (f:FuncId):Option TypeId:=kpJ f rcL
theorem kBn:∀ x,x∈kBm->∃ F lv,Tryz.prog.funcs[x.1]? = some F∧kaf Tryz.prog lv F=some x.2:=by
 intro x hx
 simp only [kBm,List.mem_cons,List.not_mem_nil,or_false] at hx
 rcases hx with rfl | rfl | rfl | rfl | rfl | rfl | rfl | rfl | rfl | rfl | rfl | rfl | rfl | rfl | rfl | rfl | rfl | rfl | rfl | rfl | rfl | rfl | rfl | rfl | rfl | rfl | rfl | rfl | rfl | rfl | rfl | rfl | rfl | rfl | rfl | rfl | rfl | rfl | rfl | rfl | rfl | rfl | rfl | rfl | rfl | rfl | rfl | rfl | rfl | rfl | rfl | rfl | rfl | rfl | rfl | rfl | rfl | rfl | rfl | rfl | rfl | rfl | rfl | rfl | rfl | rfl | rfl | rfl | rfl | rfl | rfl | rfl | rfl | rfl | rfl | rfl | rfl | rfl | rfl | rfl | rfl | rfl | rfl
 · exact ⟨_,_,Tryz.func5,c5⟩
 · exact ⟨_,_,Tryz.func6,c6⟩
 · exact ⟨_,_,Tryz.func7,c7⟩
 · exact ⟨_,_,Tryz.func8,c8⟩
 · exact ⟨_,_,Tryz.func10,c10⟩
 · exact ⟨_,_,Tryz.func11,c11⟩
 · exact ⟨_,_,Tryz.func13,c13⟩
 · exact ⟨_,_,Tryz.func14,c14⟩
 · exact ⟨_,_,Tryz.func15,c15⟩
 · exact ⟨_,_,Tryz.func16,c16⟩
 · exact ⟨_,_,Tryz.func17,c17⟩
 · exact ⟨_,_,Tryz.func18,c18⟩
 · exact ⟨_,_,Tryz.func19,c19⟩
 · exact ⟨_,_,Tryz.func20,c20⟩
 · exact ⟨_,_,Tryz.func21,c21⟩
 · exact ⟨_,_,Tryz.func22,c22⟩
 · exact ⟨_,_,Tryz.func23,c23⟩
 · exact ⟨_,_,Tryz.func24,c24⟩
 · exact ⟨_,_,Tryz.func25,c25⟩
 · exact ⟨_,_,Tryz.func30,c30⟩
 · exact ⟨_,_,Tryz.func31,c31⟩
 · exact ⟨_,_,Tryz.func32,c32⟩
 · exact ⟨_,_,Tryz.func33,c33⟩
 · exact ⟨_,_,Tryz.func34,c34⟩
 · exact ⟨_,_,Tryz.func35,c35⟩
 · exact ⟨_,_,Tryz.func36,c36⟩
 · exact ⟨_,_,Tryz.func38,c38⟩
 · exact ⟨_,_,Tryz.func39,c39⟩
 · exact ⟨_,_,Tryz.func40,c40⟩
 · exact ⟨_,_,Tryz.func41,c41⟩
 · exact ⟨_,_,Tryz.func42,c42⟩
 · exact ⟨_,_,Tryz.func43,c43⟩
 · exact ⟨_,_,Tryz.func44,c44⟩
 · exact ⟨_,_,Tryz.func45,c45⟩
 · exact ⟨_,_,Tryz.func46,c46⟩
 · exact ⟨_,_,Tryz.func47,c47⟩
 · exact ⟨_,_,Tryz.func48,c48⟩
 · exact ⟨_,_,Tryz.func49,c49⟩
 · exact ⟨_,_,Tryz.func50,c50⟩
 · exact ⟨_,_,Tryz.func51,c51⟩
 · exact ⟨_,_,Tryz.func52,c52⟩
 · exact ⟨_,_,Tryz.func55,c55⟩
 · exact ⟨_,_,Tryz.func57,c57⟩
 · exact ⟨_,_,Tryz.func58,c58⟩
 · exact ⟨_,_,Tryz.func59,c59⟩
 · exact ⟨_,_,Tryz.func72,c72⟩
 · exact ⟨_,_,Tryz.func74,c74⟩
 · exact ⟨_,_,Tryz.func75,c75⟩
 · exact ⟨_,_,Tryz.func76,c76⟩
 · exact ⟨_,_,Tryz.func77,c77⟩
 · exact ⟨_,_,Tryz.func78,c78⟩
 · exact ⟨_,_,Tryz.func79,c79⟩
 · exact ⟨_,_,Tryz.func80,c80⟩
 · exact ⟨_,_,Tryz.func81,c81⟩
 · exact ⟨_,_,Tryz.func82,c82⟩
 · exact ⟨_,_,Tryz.func85,c85⟩
 · exact ⟨_,_,Tryz.func86,c86⟩
 · exact ⟨_,_,Tryz.func87,c87⟩
 · exact ⟨_,_,Tryz.func88,c88⟩
 · exact ⟨_,_,Tryz.func89,c89⟩
 · exact ⟨_,_,Tryz.func90,c90⟩
 · exact ⟨_,_,Tryz.func91,c91⟩
 · exact ⟨_,_,Tryz.func94,c94⟩
 · exact ⟨_,_,Tryz.func96,c96⟩
 · exact ⟨_,_,Tryz.func105,c105⟩
 · exact ⟨_,_,Tryz.func106,c106⟩
 · exact ⟨_,_,Tryz.func107,c107⟩
 · exact ⟨_,_,Tryz.func108,c108⟩
 · exact ⟨_,_,Tryz.func109,c109⟩
 · exact ⟨_,_,Tryz.func110,c110⟩
 · exact ⟨_,_,Tryz.func111,c111⟩
 · exact ⟨_,_,Tryz.func112,c112⟩
 · exact ⟨_,_,Tryz.func120,c120⟩
 · exact ⟨_,_,Tryz.func121,c121⟩
 · exact ⟨_,_,Tryz.func123,c123⟩
 · exact ⟨_,_,Tryz.func124,c124⟩
 · exact ⟨_,_,Tryz.func125,c125⟩
 · exact ⟨_,_,Tryz.func126,c126⟩
 · exact ⟨_,_,Tryz.func135,c135⟩
 · exact ⟨_,_,Tryz.func137,c137⟩
 · exact ⟨_,_,Tryz.func138,c138⟩
 · exact ⟨_,_,Tryz.func139,c139⟩
 · exact ⟨_,_,Tryz.func146,c146⟩
end Go.Proofs.YtaphnbaiamnfpaaGreatDoor.Ps
