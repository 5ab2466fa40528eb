-- Printed by xprint.py of this session (the kit's printer with contracts given by hand). Lean checks it.
import Derived.Test.YtnnaakinchophaaXA0
import Derived.Test.YtnnaakinchophaaOrdH
namespace Go.Proofs.Ytnnaakinchophaa.XA
open Go.RowKit Go.Proofs.YtnnaakinchophaaW.PrintWords Go.Proofs.YtnnaakinchophaaW.PrintLast Go.Proofs.YtnnaakinchophaaW.PrintMore
attribute [local go_sem] max2_int min2_int max_two min_two max_three min_three max_four min_four   -- for this text's walks alone
set_option linter.unusedVariables false
set_option linter.unusedSimpArgs false

/-! ### order_Best: function 15 (given by hand) -/
-- IMPORTS Derived.Test.YtnnaakinchophaaOrdH
def order_Best.f (a0 : Int) (l1 : List (List Int)) : Option (List Int × Int × Int) := Ord.bestF a0 l1
theorem order_Best.calls (a0 : Int) (A1 : Option Addr) (c1 : Nat) (l1 : List (List Int)) (r1 : List Int) (r2 : Int) (r3 : Int) (w : World) (hr1 : Kd.C (Kd.slice 3 (Kd.int .i64)) w A1 l1.length l1) (hc1 : l1.length ≤ c1) (h : order_Best.f a0 l1 = some (r1, r2, r3)) :
    Calls Try.prog 15 #[.int .i64 a0, .slice A1 l1.length c1] w fun e w' => ∃ v0_ : Value, e = .returned (.tuple #[v0_, .int .i64 r2, .int .i64 r3]) ∧ Kd.R (Kd.int .i64) 3 w' w.heap.size (fun _ => True) v0_ r1 ∧ Below w.heap.size w w' :=
  Ord.best_all a0 A1 c1 l1 r1 r2 r3 w hr1 hc1 h

end Go.Proofs.Ytnnaakinchophaa.XA
