/-
  NARROWER THAN 'FOR EVERY INPUT', by the rows' own cells (each row's printed sentence says how): ParserSames: loops.
  DERIVED. THE GIVEN ROWS OF THIS SEAT. 7 by the template 'for every input the law returns true; each argument reads behind the call as it read before'; 0 by the template 'total and deterministic' (their statements: YtbmcafehpgimfaaTotals.lean).
  GIVEN WITH THE SEED: the statements are not yours to turn. If you find one false, say at which input.
  Laid BY PROGRAM, IN A SANDBOX (cutbox-rows.mjs): the forced cells as the released guide's own fill.sh prints them over the translation 6517890ec8d9d4b5… (all of the seat's roots in one cut). By AI agents, Wed Nov 11 2026. No macro, syntax, notation, axiom, sorry.
-/
import Derived.Test.YtbmcafehpgimfaaChecked
import GoSem.Claim
import GoSem.ClaimJoined
import GoSem.ClaimMapViews
import Derived.JoinedTies
import Derived.KernelRfl
namespace Go.Proofs.Ytbmcafehpgimfaa
/- THE CELL 'sum', in the pinned program and in every row, IS THE sha256 OF THE DUMP (.gsa) THAT YtbmcafehpgimfaaProg.lean LOADS. Nothing in Lean hashes anything: it is a label: what it is worth is what the hold of that sum in a sandbox is worth. -/
noncomputable def Try.pinned : Pinned := { name := "ytbmcafehpgimfaa", sum := "6517890ec8d9d4b597b36876768bf8e97102e83d536408a8865738a25ef74c80", checked := Try.checked }
namespace Rows
def none {H : Type} : Left H := { results := [], args := [] }

/-- 'sortilegelaw06.ParserExprs': WHATEVER THE INPUT: true; the input reads as it did. -/
def parserExprsSpec : ChangeSpec := { name := "parserExprs", fn := fun _ => fun
  | [d] => { results := [.lit (.bool true)], args := [d] }
  | _ => none }
def parserExprsRow : OpenClaim := { program := "ytbmcafehpgimfaa", sum := "6517890ec8d9d4b597b36876768bf8e97102e83d536408a8865738a25ef74c80", func := "sortilege/sortilegelaw06.ParserExprs", spec := "parserExprs", inPlace := ["internal/bytealg.IndexByteString", "internal/bytealg.IndexString"], unfollowed := true, recurses := true, named := ["internal/bytealg.MaxLen"], apart := false }
def ParserExprsSaid : Prop := parserExprsRow.holds Try.pinned (OpenSpec.ofChange parserExprsSpec)

/-- ITS FALSE NEIGHBOUR: 'it returns false'. Refute it at one input. -/
def parserExprsWrong : ChangeSpec := { name := "parserExprs", fn := fun _ => fun
  | [d] => { results := [.lit (.bool false)], args := [d] }
  | _ => none }
def ParserExprsWrongFalsely : Prop := parserExprsRow.holds Try.pinned (OpenSpec.ofChange parserExprsWrong)

/-- 'sortilegelaw06.ParserSames': WHATEVER THE INPUT: true; the input reads as it did. -/
def parserSamesSpec : ChangeSpec := { name := "parserSames", fn := fun _ => fun
  | [d1, d2] => { results := [.lit (.bool true)], args := [d1, d2] }
  | _ => none }
def parserSamesRow : OpenClaim := { program := "ytbmcafehpgimfaa", sum := "6517890ec8d9d4b597b36876768bf8e97102e83d536408a8865738a25ef74c80", func := "sortilege/sortilegelaw06.ParserSames", spec := "parserSames", inPlace := ["internal/bytealg.IndexByteString", "internal/bytealg.IndexString"], unfollowed := true, recurses := true, named := ["internal/bytealg.MaxLen"], loops := true, apart := false }
def ParserSamesSaid : Prop := parserSamesRow.holds Try.pinned (OpenSpec.ofChange parserSamesSpec)

/-- ITS FALSE NEIGHBOUR: 'it returns false'. Refute it at one input. -/
def parserSamesWrong : ChangeSpec := { name := "parserSames", fn := fun _ => fun
  | [d1, d2] => { results := [.lit (.bool false)], args := [d1, d2] }
  | _ => none }
def ParserSamesWrongFalsely : Prop := parserSamesRow.holds Try.pinned (OpenSpec.ofChange parserSamesWrong)

/-- 'sortilegelaw06.ParserFirst': WHATEVER THE INPUT: true; the input reads as it did. -/
def parserFirstSpec : ChangeSpec := { name := "parserFirst", fn := fun _ => fun
  | [d1, d2] => { results := [.lit (.bool true)], args := [d1, d2] }
  | _ => none }
def parserFirstRow : OpenClaim := { program := "ytbmcafehpgimfaa", sum := "6517890ec8d9d4b597b36876768bf8e97102e83d536408a8865738a25ef74c80", func := "sortilege/sortilegelaw06.ParserFirst", spec := "parserFirst", inPlace := ["internal/bytealg.IndexByteString", "internal/bytealg.IndexString"], unfollowed := true, recurses := true, named := ["internal/bytealg.MaxLen"], apart := false }
def ParserFirstSaid : Prop := parserFirstRow.holds Try.pinned (OpenSpec.ofChange parserFirstSpec)

/-- ITS FALSE NEIGHBOUR: 'it returns false'. Refute it at one input. -/
def parserFirstWrong : ChangeSpec := { name := "parserFirst", fn := fun _ => fun
  | [d1, d2] => { results := [.lit (.bool false)], args := [d1, d2] }
  | _ => none }
def ParserFirstWrongFalsely : Prop := parserFirstRow.holds Try.pinned (OpenSpec.ofChange parserFirstWrong)

/-- 'sortilegelaw06.ParserGoes': WHATEVER THE INPUT: true; the input reads as it did. -/
def parserGoesSpec : ChangeSpec := { name := "parserGoes", fn := fun _ => fun
  | [d] => { results := [.lit (.bool true)], args := [d] }
  | _ => none }
def parserGoesRow : OpenClaim := { program := "ytbmcafehpgimfaa", sum := "6517890ec8d9d4b597b36876768bf8e97102e83d536408a8865738a25ef74c80", func := "sortilege/sortilegelaw06.ParserGoes", spec := "parserGoes", inPlace := ["internal/bytealg.IndexByteString", "internal/bytealg.IndexString"], unfollowed := true, recurses := true, named := ["internal/bytealg.MaxLen"], apart := false }
def ParserGoesSaid : Prop := parserGoesRow.holds Try.pinned (OpenSpec.ofChange parserGoesSpec)

/-- ITS FALSE NEIGHBOUR: 'it returns false'. Refute it at one input. -/
def parserGoesWrong : ChangeSpec := { name := "parserGoes", fn := fun _ => fun
  | [d] => { results := [.lit (.bool false)], args := [d] }
  | _ => none }
def ParserGoesWrongFalsely : Prop := parserGoesRow.holds Try.pinned (OpenSpec.ofChange parserGoesWrong)

/-- 'sortilegelaw06.ParserQuery': WHATEVER THE INPUT: true; the input reads as it did. -/
def parserQuerySpec : ChangeSpec := { name := "parserQuery", fn := fun _ => fun
  | [d] => { results := [.lit (.bool true)], args := [d] }
  | _ => none }
def parserQueryRow : OpenClaim := { program := "ytbmcafehpgimfaa", sum := "6517890ec8d9d4b597b36876768bf8e97102e83d536408a8865738a25ef74c80", func := "sortilege/sortilegelaw06.ParserQuery", spec := "parserQuery", inPlace := ["internal/bytealg.IndexByteString", "internal/bytealg.IndexString"], unfollowed := true, recurses := true, named := ["internal/bytealg.MaxLen"], apart := false }
def ParserQuerySaid : Prop := parserQueryRow.holds Try.pinned (OpenSpec.ofChange parserQuerySpec)

/-- ITS FALSE NEIGHBOUR: 'it returns false'. Refute it at one input. -/
def parserQueryWrong : ChangeSpec := { name := "parserQuery", fn := fun _ => fun
  | [d] => { results := [.lit (.bool false)], args := [d] }
  | _ => none }
def ParserQueryWrongFalsely : Prop := parserQueryRow.holds Try.pinned (OpenSpec.ofChange parserQueryWrong)

/-- 'sortilegelaw06.ParserBrackets': WHATEVER THE INPUT: true; the input reads as it did. -/
def parserBracketsSpec : ChangeSpec := { name := "parserBrackets", fn := fun _ => fun
  | [d1, d2] => { results := [.lit (.bool true)], args := [d1, d2] }
  | _ => none }
def parserBracketsRow : OpenClaim := { program := "ytbmcafehpgimfaa", sum := "6517890ec8d9d4b597b36876768bf8e97102e83d536408a8865738a25ef74c80", func := "sortilege/sortilegelaw06.ParserBrackets", spec := "parserBrackets", inPlace := ["internal/bytealg.IndexByteString", "internal/bytealg.IndexString"], unfollowed := true, recurses := true, named := ["internal/bytealg.MaxLen"], apart := false }
def ParserBracketsSaid : Prop := parserBracketsRow.holds Try.pinned (OpenSpec.ofChange parserBracketsSpec)

/-- ITS FALSE NEIGHBOUR: 'it returns false'. Refute it at one input. -/
def parserBracketsWrong : ChangeSpec := { name := "parserBrackets", fn := fun _ => fun
  | [d1, d2] => { results := [.lit (.bool false)], args := [d1, d2] }
  | _ => none }
def ParserBracketsWrongFalsely : Prop := parserBracketsRow.holds Try.pinned (OpenSpec.ofChange parserBracketsWrong)

/-- 'sortilegelaw06.ParserBlanks': WHATEVER THE INPUT: true; the input reads as it did. -/
def parserBlanksSpec : ChangeSpec := { name := "parserBlanks", fn := fun _ => fun
  | [d1, d2] => { results := [.lit (.bool true)], args := [d1, d2] }
  | _ => none }
def parserBlanksRow : OpenClaim := { program := "ytbmcafehpgimfaa", sum := "6517890ec8d9d4b597b36876768bf8e97102e83d536408a8865738a25ef74c80", func := "sortilege/sortilegelaw06.ParserBlanks", spec := "parserBlanks", inPlace := ["internal/bytealg.IndexByteString", "internal/bytealg.IndexString"], unfollowed := true, recurses := true, named := ["internal/bytealg.MaxLen"], apart := false }
def ParserBlanksSaid : Prop := parserBlanksRow.holds Try.pinned (OpenSpec.ofChange parserBlanksSpec)

/-- ITS FALSE NEIGHBOUR: 'it returns false'. Refute it at one input. -/
def parserBlanksWrong : ChangeSpec := { name := "parserBlanks", fn := fun _ => fun
  | [d1, d2] => { results := [.lit (.bool false)], args := [d1, d2] }
  | _ => none }
def ParserBlanksWrongFalsely : Prop := parserBlanksRow.holds Try.pinned (OpenSpec.ofChange parserBlanksWrong)

/- THE SECOND FORM. 'bulk': how many values and letters a reading holds, each counted each time it is reached (what is shared counts as often as it is met; a slice's spare places count too). A statement '..UptoSaid' is the law's where the arguments, and the package variables that the reading takes, are together of bulk at most 1048576: NARROWER than '..Said'. Prove '..Said' where nothing that the law and all that it calls make is longer than what came in: it says more and counts as full. Else prove '..UptoSaid'. A law counts once. -/
mutual
def uptoBulk {H : Type} : DataW H → Nat
  | .lit (.string bytes) => bytes.length + 1
  | .lit _ => 1
  | .nil => 1
  | .ptr d => uptoBulk d + 1
  | .slice elems spare => uptoBulkAll elems + uptoBulkAll spare + 1
  | .agg parts => uptoBulkAll parts + 1
  | .iface _ d => uptoBulk d + 1
  | .map entries => uptoBulkEntries entries + 1
  | .held _ => 1
def uptoBulkAll {H : Type} : List (DataW H) → Nat
  | [] => 0
  | d :: r => uptoBulk d + uptoBulkAll r
def uptoBulkEntries {H : Type} : List (Lit × DataW H) → Nat
  | [] => 0
  | x :: r => uptoBulkEntry x + uptoBulkEntries r
def uptoBulkEntry {H : Type} : Lit × DataW H → Nat
  | (.string bytes, d) => bytes.length + uptoBulk d + 1
  | (_, d) => uptoBulk d + 1
 end
def uptoSmall : (H : Type) → List (DataW H) → Bool := fun _ ds => decide (uptoBulkAll ds ≤ 1048576)
def OpenSpec.upto (s : _root_.Go.ChangeSpec) : _root_.Go.OpenSpec := { _root_.Go.OpenSpec.ofChange s with cond := some uptoSmall }

/-- 'sortilegelaw06.ParserExprs', WHERE WHAT IT READS IS OF BULK AT MOST 1048576: true; the input reads as it did. -/
def parserExprsUptoRow : OpenClaim := { program := "ytbmcafehpgimfaa", sum := "6517890ec8d9d4b597b36876768bf8e97102e83d536408a8865738a25ef74c80", func := "sortilege/sortilegelaw06.ParserExprs", spec := "parserExprs", inPlace := ["internal/bytealg.IndexByteString", "internal/bytealg.IndexString"], unfollowed := true, recurses := true, named := ["internal/bytealg.MaxLen"], apart := false, narrowed := true }
def ParserExprsUptoSaid : Prop := parserExprsUptoRow.holds Try.pinned (OpenSpec.upto parserExprsSpec)

/-- 'sortilegelaw06.ParserSames', WHERE WHAT IT READS IS OF BULK AT MOST 1048576: true; the input reads as it did. -/
def parserSamesUptoRow : OpenClaim := { program := "ytbmcafehpgimfaa", sum := "6517890ec8d9d4b597b36876768bf8e97102e83d536408a8865738a25ef74c80", func := "sortilege/sortilegelaw06.ParserSames", spec := "parserSames", inPlace := ["internal/bytealg.IndexByteString", "internal/bytealg.IndexString"], unfollowed := true, recurses := true, named := ["internal/bytealg.MaxLen"], loops := true, apart := false, narrowed := true }
def ParserSamesUptoSaid : Prop := parserSamesUptoRow.holds Try.pinned (OpenSpec.upto parserSamesSpec)

/-- 'sortilegelaw06.ParserFirst', WHERE WHAT IT READS IS OF BULK AT MOST 1048576: true; the input reads as it did. -/
def parserFirstUptoRow : OpenClaim := { program := "ytbmcafehpgimfaa", sum := "6517890ec8d9d4b597b36876768bf8e97102e83d536408a8865738a25ef74c80", func := "sortilege/sortilegelaw06.ParserFirst", spec := "parserFirst", inPlace := ["internal/bytealg.IndexByteString", "internal/bytealg.IndexString"], unfollowed := true, recurses := true, named := ["internal/bytealg.MaxLen"], apart := false, narrowed := true }
def ParserFirstUptoSaid : Prop := parserFirstUptoRow.holds Try.pinned (OpenSpec.upto parserFirstSpec)

/-- 'sortilegelaw06.ParserGoes', WHERE WHAT IT READS IS OF BULK AT MOST 1048576: true; the input reads as it did. -/
def parserGoesUptoRow : OpenClaim := { program := "ytbmcafehpgimfaa", sum := "6517890ec8d9d4b597b36876768bf8e97102e83d536408a8865738a25ef74c80", func := "sortilege/sortilegelaw06.ParserGoes", spec := "parserGoes", inPlace := ["internal/bytealg.IndexByteString", "internal/bytealg.IndexString"], unfollowed := true, recurses := true, named := ["internal/bytealg.MaxLen"], apart := false, narrowed := true }
def ParserGoesUptoSaid : Prop := parserGoesUptoRow.holds Try.pinned (OpenSpec.upto parserGoesSpec)

/-- 'sortilegelaw06.ParserQuery', WHERE WHAT IT READS IS OF BULK AT MOST 1048576: true; the input reads as it did. -/
def parserQueryUptoRow : OpenClaim := { program := "ytbmcafehpgimfaa", sum := "6517890ec8d9d4b597b36876768bf8e97102e83d536408a8865738a25ef74c80", func := "sortilege/sortilegelaw06.ParserQuery", spec := "parserQuery", inPlace := ["internal/bytealg.IndexByteString", "internal/bytealg.IndexString"], unfollowed := true, recurses := true, named := ["internal/bytealg.MaxLen"], apart := false, narrowed := true }
def ParserQueryUptoSaid : Prop := parserQueryUptoRow.holds Try.pinned (OpenSpec.upto parserQuerySpec)

/-- 'sortilegelaw06.ParserBrackets', WHERE WHAT IT READS IS OF BULK AT MOST 1048576: true; the input reads as it did. -/
def parserBracketsUptoRow : OpenClaim := { program := "ytbmcafehpgimfaa", sum := "6517890ec8d9d4b597b36876768bf8e97102e83d536408a8865738a25ef74c80", func := "sortilege/sortilegelaw06.ParserBrackets", spec := "parserBrackets", inPlace := ["internal/bytealg.IndexByteString", "internal/bytealg.IndexString"], unfollowed := true, recurses := true, named := ["internal/bytealg.MaxLen"], apart := false, narrowed := true }
def ParserBracketsUptoSaid : Prop := parserBracketsUptoRow.holds Try.pinned (OpenSpec.upto parserBracketsSpec)

/-- 'sortilegelaw06.ParserBlanks', WHERE WHAT IT READS IS OF BULK AT MOST 1048576: true; the input reads as it did. -/
def parserBlanksUptoRow : OpenClaim := { program := "ytbmcafehpgimfaa", sum := "6517890ec8d9d4b597b36876768bf8e97102e83d536408a8865738a25ef74c80", func := "sortilege/sortilegelaw06.ParserBlanks", spec := "parserBlanks", inPlace := ["internal/bytealg.IndexByteString", "internal/bytealg.IndexString"], unfollowed := true, recurses := true, named := ["internal/bytealg.MaxLen"], apart := false, narrowed := true }
def ParserBlanksUptoSaid : Prop := parserBlanksUptoRow.holds Try.pinned (OpenSpec.upto parserBlanksSpec)

end Rows
end Go.Proofs.Ytbmcafehpgimfaa
