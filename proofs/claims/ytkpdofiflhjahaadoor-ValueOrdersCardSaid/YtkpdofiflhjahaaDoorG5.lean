/- The law on Compare and Same against the reference. -/
import Derived.Test.YtkpdofiflhjahaaDoorF8
import Derived.Test.YtkpdofiflhjahaaDoorPvL5
namespace Go.Proofs.YtkpdofiflhjahaaDoor.Ps
set_option linter.unusedVariables false
open Go Go.RowKit
theorem lawOrders (a b : W) : Ak 1000001 5 [a.v, b.v] [] = some (R (bV true)) := by
  refine (call5 1000000 a.k a.n (W.rows a.l) b.k b.n (W.rows b.l)).trans ?_
  rw [e5_eq]
  have e2 : [[D.int IntKind.i64 a.k, D.int IntKind.i64 a.n, D.list 3 (W.rows a.l)], [D.int IntKind.i64 b.k, D.int IntKind.i64 b.n, D.list 3 (W.rows b.l)]] = W.rows [a, b] := by rw [W.rows, W.rows, W.rows, W.row_eq, W.row_eq]
  have hf := C23 999999 2000 (by omega) (by omega) (by omega) [a, b] (by simp) (by simp)
  rw [← e2] at hf
  rw [hf, g_oB]
  have hsz : W.sizes [a, b] = a.size + b.size := by rw [W.sizes, W.sizes, W.sizes]; omega
  by_cases h1 : ((W.sizes [a, b] : Nat) : Int) ≤ 2000
  · have h30 := C30 1000000 a b (by omega) (by omega)
    have h31 := C31 1000000 a b (by omega) (by omega)
    have h32 := C32 1000000 a b (by omega) (by omega)
    have h33 := C33 1000000 a b (by omega) (by omega)
    unfold W.v at h30 h31 h32 h33
    rw [decide_eq_true h1, Bool.not_true, cond_false, q5_0_eq, h30, h31, g_oI, g_oI, O8.int_eqb, decide_eq_true rfl, cond_true, h32, h33, g_oB, g_oB]
    simp only [BEq.rfl, cond_true]
    rw [awake_call8, g_oB]
  · rw [decide_eq_false h1, Bool.not_false, cond_true, awake_call8, g_oB]
end Go.Proofs.YtkpdofiflhjahaaDoor.Ps
