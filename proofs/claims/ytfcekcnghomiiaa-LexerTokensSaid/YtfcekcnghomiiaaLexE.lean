/- The comparison of two lists of tokens; awake. -/
import Derived.Test.YtfcekcnghomiiaaLexD
import Derived.Test.YtfcekcnghomiiaaLexT
import Derived.Test.YtfcekcnghomiiaaX17
import Derived.Test.YtfcekcnghomiiaaLexH
namespace Go.Proofs.Ytfcekcnghomiiaa
open Go.RowKit Go.Proofs.YtfcekcnghomiiaaW.PrintWords Go.Proofs.YtfcekcnghomiiaaW.PrintLast Go.Proofs.YtfcekcnghomiiaaW.PrintMore
namespace X
open Lx

theorem rd35 (l : List Tok) (i : Nat) (h : i < l.length) : rd_T35 (l.map t35) (i : Int) = t35 l[i] := by
  unfold rd_T35
  rw [Int.toNat_natCast, List.getD_eq_getElem?_getD, List.getElem?_map, List.getElem?_eq_getElem h]
  rfl

theorem alike_l0 (l : List Tok) (hl : l.length ≤ 140737488351232) : ∀ (d i : Nat), i ≤ l.length → l.length - i = d → Ev (fun k => sortilegelaw05_alike.l0 k (l.map t36) (l.map t35) (i : Int)) true := by
  intro d
  induction d with
  | zero =>
    intro i hi hd
    refine ev0 fun k => ?_
    simp only [sortilegelaw05_alike.l0]
    rw [if_neg (by rw [List.length_map]; omega)]
  | succ d ih =>
    intro i hi hd
    have hlt : i < l.length := by omega
    refine ev1 (ih (i + 1) (by omega) (by omega)) fun k hk => ?_
    simp only [sortilegelaw05_alike.l0]
    rw [if_pos (by rw [List.length_map]; omega), if_pos (by omega), if_pos (by rw [List.length_map]; omega), rd36 l i hlt, rd35 l i hlt, if_neg (by simp [t36, t35]), w1 i (by omega)]
    exact hk

theorem alike_f (l : List Tok) (hl : l.length ≤ 140737488351232) : Ev (fun k => sortilegelaw05_alike.f k (l.map t36) (l.map t35)) true := by
  refine ev1z (alike_l0 l hl _ 0 (by omega) rfl) fun k hk => ?_
  unfold sortilegelaw05_alike.f
  rw [if_pos (by simp)]
  exact hk

end X
end Go.Proofs.Ytfcekcnghomiiaa
