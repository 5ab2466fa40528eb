/- The law that Compare is a total order. -/
import Derived.Test.YtkpdofiflhjahaaDoorF8
import Derived.Test.YtkpdofiflhjahaaDoorPvL7
namespace Go.Proofs.YtkpdofiflhjahaaDoor.Ps
set_option linter.unusedVariables false
open Go Go.RowKit
theorem lawLine (a b c : W) : Ak 1000001 7 [a.v, b.v, c.v] [] = some (R (bV true)) := by
  refine (call7 1000000 a.k a.n (W.rows a.l) b.k b.n (W.rows b.l) c.k c.n (W.rows c.l)).trans ?_
  rw [e7_eq]
  have e2 : [[D.int IntKind.i64 a.k, D.int IntKind.i64 a.n, D.list 3 (W.rows a.l)], [D.int IntKind.i64 b.k, D.int IntKind.i64 b.n, D.list 3 (W.rows b.l)], [D.int IntKind.i64 c.k, D.int IntKind.i64 c.n, D.list 3 (W.rows c.l)]] = W.rows [a, b, c] := by
    rw [W.rows, W.rows, W.rows, W.rows, W.row_eq, W.row_eq, W.row_eq]
  have hf := C23 999999 2000 (by omega) (by omega) (by omega) [a, b, c] (by simp) (by simp)
  rw [← e2] at hf
  rw [hf, g_oB]
  have hsz : W.sizes [a, b, c] = a.size + b.size + c.size := by rw [W.sizes, W.sizes, W.sizes, W.sizes]; omega
  by_cases h1 : ((W.sizes [a, b, c] : Nat) : Int) ≤ 2000
  · have hab := C30 1000000 a b (by omega) (by omega)
    have hbc := C30 1000000 b c (by omega) (by omega)
    have hac := C30 1000000 a c (by omega) (by omega)
    have hba := C30 1000000 b a (by omega) (by omega)
    have h38 := C38 1000000 a b (by omega) (by omega)
    have h32 := C32 1000000 a b (by omega) (by omega)
    unfold W.v at hab hbc hac hba h38 h32
    have v1 := W.cmp_val a b
    have v2 := W.cmp_val b c
    have v3 := W.cmp_val a c
    rw [decide_eq_true h1, Bool.not_true, cond_false, q7_0_eq, hab, hbc, hac, hba, g_oI, g_oI, g_oI, g_oI, O8.int_neb, wrap_in _ (by omega) (by omega), decide_eq_true (by rw [W.cmp_neg a b]; omega), Bool.not_true, cond_false, h38, g_oB]
    have ez : (W.cmp a b == 0) = W.beq a b := by
      rw [O8.int_eqb, Bool.eq_iff_iff, decide_eq_true_iff, W.cmp_zero, W.beq_iff]
    rw [ez]
    have e3 : (!(W.beq a b == W.beq a b)) = false := by simp
    rw [e3, cond_false, h32, g_oB]
    have e4 : decide (W.cmp a b = 0) = W.beq a b := by rw [← ez, O8.int_eqb]
    rw [e4, e3, cond_false, q7_1_eq, awake_call8]
    simp only [g_oB]
    obtain ⟨t1, t2, t3⟩ := W.cmp_trans a b c
    by_cases p1 : W.cmp a b ≤ 0 <;> by_cases p2 : W.cmp b c ≤ 0 <;> by_cases p3 : W.cmp a b < 0 <;> by_cases p4 : W.cmp a c > 0 <;> by_cases p5 : W.cmp a c ≥ 0 <;>
      first
      | (exfalso; omega)
      | (simp only [p1, p2, p3, p4, p5, decide_true, decide_false, Bool.not_true, Bool.not_false, cond_true, cond_false])
  · rw [decide_eq_false h1, Bool.not_false, cond_true, awake_call8, g_oB]
end Go.Proofs.YtkpdofiflhjahaaDoor.Ps
