/-
  No cell of these rows narrows 'for every input' (looked for: loops, veiled, ifaces, maps, wideKeys, modest, calm, conditions, laid).
  DERIVED. THE GIVEN ROWS OF THIS SEAT. 11 by the template 'for every input the law returns true; each argument reads behind the call as it read before'; 0 by the template 'total and deterministic' (their statements: YtnnaakinchophaaTotals.lean).
  GIVEN WITH THE SEED: the statements are not yours to turn. If you find one false, say at which input.
  Laid BY PROGRAM, IN A SANDBOX (cutbox-rows.mjs): the forced cells as the released guide's own fill.sh prints them over the translation 3cedd35e8eea7af5… (all of the seat's roots in one cut). By AI agents, Wed Nov 11 2026. No macro, syntax, notation, axiom, sorry.
-/
import Derived.Test.YtnnaakinchophaaChecked
import GoSem.Claim
import GoSem.ClaimJoined
import GoSem.ClaimMapViews
import Derived.JoinedTies
import Derived.KernelRfl
namespace Go.Proofs.Ytnnaakinchophaa
/- THE CELL 'sum', in the pinned program and in every row, IS THE sha256 OF THE DUMP (.gsa) THAT YtnnaakinchophaaProg.lean LOADS. Nothing in Lean hashes anything: it is a label: what it is worth is what the hold of that sum in a sandbox is worth. -/
noncomputable def Try.pinned : Pinned := { name := "ytnnaakinchophaa", sum := "3cedd35e8eea7af521f2c1d51d3e73bebec01c50920c8c1bb0d9c276e8e0784b", checked := Try.checked }
namespace Rows
def none {H : Type} : Left H := { results := [], args := [] }

/-- 'sortilegelaw27.OrderBest': WHATEVER THE INPUT: true; the input reads as it did. -/
def orderBestSpec : ChangeSpec := { name := "orderBest", fn := fun _ => fun
  | [d1, d2] => { results := [.lit (.bool true)], args := [d1, d2] }
  | _ => none }
def orderBestRow : OpenClaim := { program := "ytnnaakinchophaa", sum := "3cedd35e8eea7af521f2c1d51d3e73bebec01c50920c8c1bb0d9c276e8e0784b", func := "sortilege/sortilegelaw27.OrderBest", spec := "orderBest", unfollowed := true, recurses := true, apart := false }
def OrderBestSaid : Prop := orderBestRow.holds Try.pinned (OpenSpec.ofChange orderBestSpec)

/-- ITS FALSE NEIGHBOUR: 'it returns false'. Refute it at one input. -/
def orderBestWrong : ChangeSpec := { name := "orderBest", fn := fun _ => fun
  | [d1, d2] => { results := [.lit (.bool false)], args := [d1, d2] }
  | _ => none }
def OrderBestWrongFalsely : Prop := orderBestRow.holds Try.pinned (OpenSpec.ofChange orderBestWrong)

/-- 'sortilegelaw27.OrderAll': WHATEVER THE INPUT: true; the input reads as it did. -/
def orderAllSpec : ChangeSpec := { name := "orderAll", fn := fun _ => fun
  | [d1, d2] => { results := [.lit (.bool true)], args := [d1, d2] }
  | _ => none }
def orderAllRow : OpenClaim := { program := "ytnnaakinchophaa", sum := "3cedd35e8eea7af521f2c1d51d3e73bebec01c50920c8c1bb0d9c276e8e0784b", func := "sortilege/sortilegelaw27.OrderAll", spec := "orderAll", unfollowed := true, recurses := true, apart := false }
def OrderAllSaid : Prop := orderAllRow.holds Try.pinned (OpenSpec.ofChange orderAllSpec)

/-- ITS FALSE NEIGHBOUR: 'it returns false'. Refute it at one input. -/
def orderAllWrong : ChangeSpec := { name := "orderAll", fn := fun _ => fun
  | [d1, d2] => { results := [.lit (.bool false)], args := [d1, d2] }
  | _ => none }
def OrderAllWrongFalsely : Prop := orderAllRow.holds Try.pinned (OpenSpec.ofChange orderAllWrong)

/-- 'sortilegelaw27.OrderLong': WHATEVER THE INPUT: true; the input reads as it did. -/
def orderLongSpec : ChangeSpec := { name := "orderLong", fn := fun _ => fun
  | [d1, d2] => { results := [.lit (.bool true)], args := [d1, d2] }
  | _ => none }
def orderLongRow : OpenClaim := { program := "ytnnaakinchophaa", sum := "3cedd35e8eea7af521f2c1d51d3e73bebec01c50920c8c1bb0d9c276e8e0784b", func := "sortilege/sortilegelaw27.OrderLong", spec := "orderLong", unfollowed := true, recurses := true, apart := false }
def OrderLongSaid : Prop := orderLongRow.holds Try.pinned (OpenSpec.ofChange orderLongSpec)

/-- ITS FALSE NEIGHBOUR: 'it returns false'. Refute it at one input. -/
def orderLongWrong : ChangeSpec := { name := "orderLong", fn := fun _ => fun
  | [d1, d2] => { results := [.lit (.bool false)], args := [d1, d2] }
  | _ => none }
def OrderLongWrongFalsely : Prop := orderLongRow.holds Try.pinned (OpenSpec.ofChange orderLongWrong)

/-- 'sortilegelaw27.OrderEdges': WHATEVER THE INPUT: true; the input reads as it did. -/
def orderEdgesSpec : ChangeSpec := { name := "orderEdges", fn := fun _ => fun
  | [d1, d2] => { results := [.lit (.bool true)], args := [d1, d2] }
  | _ => none }
def orderEdgesRow : OpenClaim := { program := "ytnnaakinchophaa", sum := "3cedd35e8eea7af521f2c1d51d3e73bebec01c50920c8c1bb0d9c276e8e0784b", func := "sortilege/sortilegelaw27.OrderEdges", spec := "orderEdges", unfollowed := true, recurses := true, apart := false }
def OrderEdgesSaid : Prop := orderEdgesRow.holds Try.pinned (OpenSpec.ofChange orderEdgesSpec)

/-- ITS FALSE NEIGHBOUR: 'it returns false'. Refute it at one input. -/
def orderEdgesWrong : ChangeSpec := { name := "orderEdges", fn := fun _ => fun
  | [d1, d2] => { results := [.lit (.bool false)], args := [d1, d2] }
  | _ => none }
def OrderEdgesWrongFalsely : Prop := orderEdgesRow.holds Try.pinned (OpenSpec.ofChange orderEdgesWrong)

/-- 'sortilegelaw27.OrderWidths': WHATEVER THE INPUT: true; the input reads as it did. -/
def orderWidthsSpec : ChangeSpec := { name := "orderWidths", fn := fun _ => fun
  | [d1, d2, d3] => { results := [.lit (.bool true)], args := [d1, d2, d3] }
  | _ => none }
def orderWidthsRow : OpenClaim := { program := "ytnnaakinchophaa", sum := "3cedd35e8eea7af521f2c1d51d3e73bebec01c50920c8c1bb0d9c276e8e0784b", func := "sortilege/sortilegelaw27.OrderWidths", spec := "orderWidths", unfollowed := true, recurses := true, apart := false }
def OrderWidthsSaid : Prop := orderWidthsRow.holds Try.pinned (OpenSpec.ofChange orderWidthsSpec)

/-- ITS FALSE NEIGHBOUR: 'it returns false'. Refute it at one input. -/
def orderWidthsWrong : ChangeSpec := { name := "orderWidths", fn := fun _ => fun
  | [d1, d2, d3] => { results := [.lit (.bool false)], args := [d1, d2, d3] }
  | _ => none }
def OrderWidthsWrongFalsely : Prop := orderWidthsRow.holds Try.pinned (OpenSpec.ofChange orderWidthsWrong)

/-- 'sortilegelaw27.OrderGreedy': WHATEVER THE INPUT: true; the input reads as it did. -/
def orderGreedySpec : ChangeSpec := { name := "orderGreedy", fn := fun _ => fun
  | [d1, d2] => { results := [.lit (.bool true)], args := [d1, d2] }
  | _ => none }
def orderGreedyRow : OpenClaim := { program := "ytnnaakinchophaa", sum := "3cedd35e8eea7af521f2c1d51d3e73bebec01c50920c8c1bb0d9c276e8e0784b", func := "sortilege/sortilegelaw27.OrderGreedy", spec := "orderGreedy", unfollowed := true, recurses := true, apart := false }
def OrderGreedySaid : Prop := orderGreedyRow.holds Try.pinned (OpenSpec.ofChange orderGreedySpec)

/-- ITS FALSE NEIGHBOUR: 'it returns false'. Refute it at one input. -/
def orderGreedyWrong : ChangeSpec := { name := "orderGreedy", fn := fun _ => fun
  | [d1, d2] => { results := [.lit (.bool false)], args := [d1, d2] }
  | _ => none }
def OrderGreedyWrongFalsely : Prop := orderGreedyRow.holds Try.pinned (OpenSpec.ofChange orderGreedyWrong)

/-- 'sortilegelaw27.OrderChordal': WHATEVER THE INPUT: true; the input reads as it did. -/
def orderChordalSpec : ChangeSpec := { name := "orderChordal", fn := fun _ => fun
  | [d1, d2] => { results := [.lit (.bool true)], args := [d1, d2] }
  | _ => none }
def orderChordalRow : OpenClaim := { program := "ytnnaakinchophaa", sum := "3cedd35e8eea7af521f2c1d51d3e73bebec01c50920c8c1bb0d9c276e8e0784b", func := "sortilege/sortilegelaw27.OrderChordal", spec := "orderChordal", unfollowed := true, recurses := true, apart := false }
def OrderChordalSaid : Prop := orderChordalRow.holds Try.pinned (OpenSpec.ofChange orderChordalSpec)

/-- ITS FALSE NEIGHBOUR: 'it returns false'. Refute it at one input. -/
def orderChordalWrong : ChangeSpec := { name := "orderChordal", fn := fun _ => fun
  | [d1, d2] => { results := [.lit (.bool false)], args := [d1, d2] }
  | _ => none }
def OrderChordalWrongFalsely : Prop := orderChordalRow.holds Try.pinned (OpenSpec.ofChange orderChordalWrong)

/-- 'sortilegelaw27.OrderFills': WHATEVER THE INPUT: true; the input reads as it did. -/
def orderFillsSpec : ChangeSpec := { name := "orderFills", fn := fun _ => fun
  | [d1, d2, d3] => { results := [.lit (.bool true)], args := [d1, d2, d3] }
  | _ => none }
def orderFillsRow : OpenClaim := { program := "ytnnaakinchophaa", sum := "3cedd35e8eea7af521f2c1d51d3e73bebec01c50920c8c1bb0d9c276e8e0784b", func := "sortilege/sortilegelaw27.OrderFills", spec := "orderFills", unfollowed := true, recurses := true, apart := false }
def OrderFillsSaid : Prop := orderFillsRow.holds Try.pinned (OpenSpec.ofChange orderFillsSpec)

/-- ITS FALSE NEIGHBOUR: 'it returns false'. Refute it at one input. -/
def orderFillsWrong : ChangeSpec := { name := "orderFills", fn := fun _ => fun
  | [d1, d2, d3] => { results := [.lit (.bool false)], args := [d1, d2, d3] }
  | _ => none }
def OrderFillsWrongFalsely : Prop := orderFillsRow.holds Try.pinned (OpenSpec.ofChange orderFillsWrong)

/-- 'sortilegelaw27.OrderBounds': WHATEVER THE INPUT: true; the input reads as it did. -/
def orderBoundsSpec : ChangeSpec := { name := "orderBounds", fn := fun _ => fun
  | [d1, d2, d3, d4] => { results := [.lit (.bool true)], args := [d1, d2, d3, d4] }
  | _ => none }
def orderBoundsRow : OpenClaim := { program := "ytnnaakinchophaa", sum := "3cedd35e8eea7af521f2c1d51d3e73bebec01c50920c8c1bb0d9c276e8e0784b", func := "sortilege/sortilegelaw27.OrderBounds", spec := "orderBounds", unfollowed := true, recurses := true, apart := false }
def OrderBoundsSaid : Prop := orderBoundsRow.holds Try.pinned (OpenSpec.ofChange orderBoundsSpec)

/-- ITS FALSE NEIGHBOUR: 'it returns false'. Refute it at one input. -/
def orderBoundsWrong : ChangeSpec := { name := "orderBounds", fn := fun _ => fun
  | [d1, d2, d3, d4] => { results := [.lit (.bool false)], args := [d1, d2, d3, d4] }
  | _ => none }
def OrderBoundsWrongFalsely : Prop := orderBoundsRow.holds Try.pinned (OpenSpec.ofChange orderBoundsWrong)

/-- 'sortilegelaw27.OrderLower': WHATEVER THE INPUT: true; the input reads as it did. -/
def orderLowerSpec : ChangeSpec := { name := "orderLower", fn := fun _ => fun
  | [d1, d2] => { results := [.lit (.bool true)], args := [d1, d2] }
  | _ => none }
def orderLowerRow : OpenClaim := { program := "ytnnaakinchophaa", sum := "3cedd35e8eea7af521f2c1d51d3e73bebec01c50920c8c1bb0d9c276e8e0784b", func := "sortilege/sortilegelaw27.OrderLower", spec := "orderLower", unfollowed := true, recurses := true, apart := false }
def OrderLowerSaid : Prop := orderLowerRow.holds Try.pinned (OpenSpec.ofChange orderLowerSpec)

/-- ITS FALSE NEIGHBOUR: 'it returns false'. Refute it at one input. -/
def orderLowerWrong : ChangeSpec := { name := "orderLower", fn := fun _ => fun
  | [d1, d2] => { results := [.lit (.bool false)], args := [d1, d2] }
  | _ => none }
def OrderLowerWrongFalsely : Prop := orderLowerRow.holds Try.pinned (OpenSpec.ofChange orderLowerWrong)

/-- 'sortilegelaw27.OrderOwn': WHATEVER THE INPUT: true; the input reads as it did. -/
def orderOwnSpec : ChangeSpec := { name := "orderOwn", fn := fun _ => fun
  | [d1, d2, d3] => { results := [.lit (.bool true)], args := [d1, d2, d3] }
  | _ => none }
def orderOwnRow : OpenClaim := { program := "ytnnaakinchophaa", sum := "3cedd35e8eea7af521f2c1d51d3e73bebec01c50920c8c1bb0d9c276e8e0784b", func := "sortilege/sortilegelaw27.OrderOwn", spec := "orderOwn", unfollowed := true, recurses := true, apart := false }
def OrderOwnSaid : Prop := orderOwnRow.holds Try.pinned (OpenSpec.ofChange orderOwnSpec)

/-- ITS FALSE NEIGHBOUR: 'it returns false'. Refute it at one input. -/
def orderOwnWrong : ChangeSpec := { name := "orderOwn", fn := fun _ => fun
  | [d1, d2, d3] => { results := [.lit (.bool false)], args := [d1, d2, d3] }
  | _ => none }
def OrderOwnWrongFalsely : Prop := orderOwnRow.holds Try.pinned (OpenSpec.ofChange orderOwnWrong)

/- THE SECOND FORM. 'bulk': how many values and letters a reading holds, each counted each time it is reached (what is shared counts as often as it is met; a slice's spare places count too). A statement '..UptoSaid' is the law's where the arguments, and the package variables that the reading takes, are together of bulk at most 1048576: NARROWER than '..Said'. Prove '..Said' where nothing that the law and all that it calls make is longer than what came in: it says more and counts as full. Else prove '..UptoSaid'. A law counts once. -/
mutual
def uptoBulk {H : Type} : DataW H → Nat
  | .lit (.string bytes) => bytes.length + 1
  | .lit _ => 1
  | .nil => 1
  | .ptr d => uptoBulk d + 1
  | .slice elems spare => uptoBulkAll elems + uptoBulkAll spare + 1
  | .agg parts => uptoBulkAll parts + 1
  | .iface _ d => uptoBulk d + 1
  | .map entries => uptoBulkEntries entries + 1
  | .held _ => 1
def uptoBulkAll {H : Type} : List (DataW H) → Nat
  | [] => 0
  | d :: r => uptoBulk d + uptoBulkAll r
def uptoBulkEntries {H : Type} : List (Lit × DataW H) → Nat
  | [] => 0
  | x :: r => uptoBulkEntry x + uptoBulkEntries r
def uptoBulkEntry {H : Type} : Lit × DataW H → Nat
  | (.string bytes, d) => bytes.length + uptoBulk d + 1
  | (_, d) => uptoBulk d + 1
 end
def uptoSmall : (H : Type) → List (DataW H) → Bool := fun _ ds => decide (uptoBulkAll ds ≤ 1048576)
def OpenSpec.upto (s : _root_.Go.ChangeSpec) : _root_.Go.OpenSpec := { _root_.Go.OpenSpec.ofChange s with cond := some uptoSmall }

/-- 'sortilegelaw27.OrderBest', WHERE WHAT IT READS IS OF BULK AT MOST 1048576: true; the input reads as it did. -/
def orderBestUptoRow : OpenClaim := { program := "ytnnaakinchophaa", sum := "3cedd35e8eea7af521f2c1d51d3e73bebec01c50920c8c1bb0d9c276e8e0784b", func := "sortilege/sortilegelaw27.OrderBest", spec := "orderBest", unfollowed := true, recurses := true, apart := false, narrowed := true }
def OrderBestUptoSaid : Prop := orderBestUptoRow.holds Try.pinned (OpenSpec.upto orderBestSpec)

/-- 'sortilegelaw27.OrderAll', WHERE WHAT IT READS IS OF BULK AT MOST 1048576: true; the input reads as it did. -/
def orderAllUptoRow : OpenClaim := { program := "ytnnaakinchophaa", sum := "3cedd35e8eea7af521f2c1d51d3e73bebec01c50920c8c1bb0d9c276e8e0784b", func := "sortilege/sortilegelaw27.OrderAll", spec := "orderAll", unfollowed := true, recurses := true, apart := false, narrowed := true }
def OrderAllUptoSaid : Prop := orderAllUptoRow.holds Try.pinned (OpenSpec.upto orderAllSpec)

/-- 'sortilegelaw27.OrderLong', WHERE WHAT IT READS IS OF BULK AT MOST 1048576: true; the input reads as it did. -/
def orderLongUptoRow : OpenClaim := { program := "ytnnaakinchophaa", sum := "3cedd35e8eea7af521f2c1d51d3e73bebec01c50920c8c1bb0d9c276e8e0784b", func := "sortilege/sortilegelaw27.OrderLong", spec := "orderLong", unfollowed := true, recurses := true, apart := false, narrowed := true }
def OrderLongUptoSaid : Prop := orderLongUptoRow.holds Try.pinned (OpenSpec.upto orderLongSpec)

/-- 'sortilegelaw27.OrderEdges', WHERE WHAT IT READS IS OF BULK AT MOST 1048576: true; the input reads as it did. -/
def orderEdgesUptoRow : OpenClaim := { program := "ytnnaakinchophaa", sum := "3cedd35e8eea7af521f2c1d51d3e73bebec01c50920c8c1bb0d9c276e8e0784b", func := "sortilege/sortilegelaw27.OrderEdges", spec := "orderEdges", unfollowed := true, recurses := true, apart := false, narrowed := true }
def OrderEdgesUptoSaid : Prop := orderEdgesUptoRow.holds Try.pinned (OpenSpec.upto orderEdgesSpec)

/-- 'sortilegelaw27.OrderWidths', WHERE WHAT IT READS IS OF BULK AT MOST 1048576: true; the input reads as it did. -/
def orderWidthsUptoRow : OpenClaim := { program := "ytnnaakinchophaa", sum := "3cedd35e8eea7af521f2c1d51d3e73bebec01c50920c8c1bb0d9c276e8e0784b", func := "sortilege/sortilegelaw27.OrderWidths", spec := "orderWidths", unfollowed := true, recurses := true, apart := false, narrowed := true }
def OrderWidthsUptoSaid : Prop := orderWidthsUptoRow.holds Try.pinned (OpenSpec.upto orderWidthsSpec)

/-- 'sortilegelaw27.OrderGreedy', WHERE WHAT IT READS IS OF BULK AT MOST 1048576: true; the input reads as it did. -/
def orderGreedyUptoRow : OpenClaim := { program := "ytnnaakinchophaa", sum := "3cedd35e8eea7af521f2c1d51d3e73bebec01c50920c8c1bb0d9c276e8e0784b", func := "sortilege/sortilegelaw27.OrderGreedy", spec := "orderGreedy", unfollowed := true, recurses := true, apart := false, narrowed := true }
def OrderGreedyUptoSaid : Prop := orderGreedyUptoRow.holds Try.pinned (OpenSpec.upto orderGreedySpec)

/-- 'sortilegelaw27.OrderChordal', WHERE WHAT IT READS IS OF BULK AT MOST 1048576: true; the input reads as it did. -/
def orderChordalUptoRow : OpenClaim := { program := "ytnnaakinchophaa", sum := "3cedd35e8eea7af521f2c1d51d3e73bebec01c50920c8c1bb0d9c276e8e0784b", func := "sortilege/sortilegelaw27.OrderChordal", spec := "orderChordal", unfollowed := true, recurses := true, apart := false, narrowed := true }
def OrderChordalUptoSaid : Prop := orderChordalUptoRow.holds Try.pinned (OpenSpec.upto orderChordalSpec)

/-- 'sortilegelaw27.OrderFills', WHERE WHAT IT READS IS OF BULK AT MOST 1048576: true; the input reads as it did. -/
def orderFillsUptoRow : OpenClaim := { program := "ytnnaakinchophaa", sum := "3cedd35e8eea7af521f2c1d51d3e73bebec01c50920c8c1bb0d9c276e8e0784b", func := "sortilege/sortilegelaw27.OrderFills", spec := "orderFills", unfollowed := true, recurses := true, apart := false, narrowed := true }
def OrderFillsUptoSaid : Prop := orderFillsUptoRow.holds Try.pinned (OpenSpec.upto orderFillsSpec)

/-- 'sortilegelaw27.OrderBounds', WHERE WHAT IT READS IS OF BULK AT MOST 1048576: true; the input reads as it did. -/
def orderBoundsUptoRow : OpenClaim := { program := "ytnnaakinchophaa", sum := "3cedd35e8eea7af521f2c1d51d3e73bebec01c50920c8c1bb0d9c276e8e0784b", func := "sortilege/sortilegelaw27.OrderBounds", spec := "orderBounds", unfollowed := true, recurses := true, apart := false, narrowed := true }
def OrderBoundsUptoSaid : Prop := orderBoundsUptoRow.holds Try.pinned (OpenSpec.upto orderBoundsSpec)

/-- 'sortilegelaw27.OrderLower', WHERE WHAT IT READS IS OF BULK AT MOST 1048576: true; the input reads as it did. -/
def orderLowerUptoRow : OpenClaim := { program := "ytnnaakinchophaa", sum := "3cedd35e8eea7af521f2c1d51d3e73bebec01c50920c8c1bb0d9c276e8e0784b", func := "sortilege/sortilegelaw27.OrderLower", spec := "orderLower", unfollowed := true, recurses := true, apart := false, narrowed := true }
def OrderLowerUptoSaid : Prop := orderLowerUptoRow.holds Try.pinned (OpenSpec.upto orderLowerSpec)

/-- 'sortilegelaw27.OrderOwn', WHERE WHAT IT READS IS OF BULK AT MOST 1048576: true; the input reads as it did. -/
def orderOwnUptoRow : OpenClaim := { program := "ytnnaakinchophaa", sum := "3cedd35e8eea7af521f2c1d51d3e73bebec01c50920c8c1bb0d9c276e8e0784b", func := "sortilege/sortilegelaw27.OrderOwn", spec := "orderOwn", unfollowed := true, recurses := true, apart := false, narrowed := true }
def OrderOwnUptoSaid : Prop := orderOwnUptoRow.holds Try.pinned (OpenSpec.upto orderOwnSpec)

end Rows
end Go.Proofs.Ytnnaakinchophaa
