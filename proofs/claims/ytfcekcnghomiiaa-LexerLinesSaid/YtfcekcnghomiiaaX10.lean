-- Printed by xprint.py of this session (the kit's printer with contracts given by hand). Lean checks it.
import Derived.Test.YtfcekcnghomiiaaX0
import Derived.Test.YtfcekcnghomiiaaAwake
namespace Go.Proofs.Ytfcekcnghomiiaa.X
open Go.RowKit Go.Proofs.YtfcekcnghomiiaaW.PrintWords Go.Proofs.YtfcekcnghomiiaaW.PrintLast Go.Proofs.YtfcekcnghomiiaaW.PrintMore
attribute [local go_sem] max2_int min2_int max_two min_two max_three min_three max_four min_four   -- for this text's walks alone
set_option linter.unusedVariables false
set_option linter.unusedSimpArgs false

/-! ### sortilegelaw05_awake: function 9 (given by hand) -/
-- IMPORTS Derived.Test.YtfcekcnghomiiaaAwake
def sortilegelaw05_awake.f (_k : Nat) : Option (Bool) := some true
theorem sortilegelaw05_awake.mono : ∀ k, LeO (sortilegelaw05_awake.f k) (sortilegelaw05_awake.f (k + 1)) := fun _ _ h => h
theorem sortilegelaw05_awake.calls (k : Nat) (r : Bool) (w : World) (hs_ : Sane w) (h : sortilegelaw05_awake.f k = some r) :
    Calls Try.prog 9 #[] w fun e w' => e = .returned (.bool r) ∧ Below w.heap.size w w' := by
  obtain rfl := Option.some.inj h
  exact awake_calls w hs_

end Go.Proofs.Ytfcekcnghomiiaa.X
