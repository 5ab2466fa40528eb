/- The law on lists that begin alike. -/
import Derived.Test.YtkpdofiflhjahaaDoorF8
import Derived.Test.YtkpdofiflhjahaaDoorPvL11
namespace Go.Proofs.YtkpdofiflhjahaaDoor.Ps
set_option linter.unusedVariables false
set_option maxRecDepth 1000000
open Go Go.RowKit
theorem W.rows_take : ∀ (l : List W) (n : Nat), (W.rows l).take n = W.rows (l.take n)
  | [], n => by rw [List.take_nil, W.rows, List.take_nil]
  | a :: r, 0 => by rw [List.take_zero, List.take_zero, W.rows]
  | a :: r, n + 1 => by rw [W.rows, List.take_succ_cons, List.take_succ_cons, W.rows, W.rows_take r n]
theorem W.sizes_take : ∀ (l : List W) (n : Nat), W.sizes (l.take n) ≤ W.sizes l
  | [], n => by simp
  | a :: r, 0 => by rw [List.take_zero, W.sizes]; omega
  | a :: r, n + 1 => by rw [List.take_succ_cons, W.sizes, W.sizes]; have := W.sizes_take r n; omega
theorem W.sizes_app : ∀ (l s : List W), W.sizes (l ++ s) = W.sizes l + W.sizes s
  | [], s => by rw [W.sizes]; simp
  | a :: r, s => by rw [List.cons_append, W.sizes, W.sizes, W.sizes_app r s]; omega
theorem u8_of {n : Int} (h : (Lit.int .u8 n).wf = true) : 0 ≤ n ∧ n ≤ 255 := by
  have e1 : IntKind.min .u8 = 0 := rfl
  have e2 : IntKind.max .u8 = 255 := rfl
  unfold Lit.wf at h
  simp only [e1, e2, Bool.and_eq_true, decide_eq_true_eq] at h
  exact h
theorem lawBegins (l : List W) (a b : W) (n : Int) (hl : l.length ≤ 1000000000000000) (h0 : 0 ≤ n) (h1 : n ≤ 255) : ∃ k, Ak k 11 [V.one (X.d (D.list 3 (W.rows l))), V.agg [X.d (D.int IntKind.i64 a.k), X.d (D.int IntKind.i64 a.n), X.d (D.list 3 (W.rows a.l)), X.d (D.int IntKind.i64 b.k), X.d (D.int IntKind.i64 b.n), X.d (D.list 3 (W.rows b.l))], V.one (X.d (D.int IntKind.u8 n))] [] = some (R (bV true)) := by
  refine ⟨(l.length + 1000000) + 60 + 1, ?_⟩
  have haw : Ak ((l.length + 1000000) + 60) 13 [] [] = some (R (bV true)) := awake_all _
  generalize hk : (l.length + 1000000) + 60 = k at haw ⊢
  refine (call11 k (W.rows l) a.k a.n (W.rows a.l) b.k b.n (W.rows b.l) n).trans ?_
  rw [e11_eq]
  obtain ⟨k', rfl⟩ : ∃ k', k = k' + 1 := ⟨k - 1, by omega⟩
  have hf := C23 k' 1000 (by omega) (by omega) (by omega) l hl (by omega)
  rw [hf, g_oB]
  by_cases q1 : ((W.sizes l : Nat) : Int) ≤ 1000
  · rw [decide_eq_true q1, Bool.not_true, cond_false]
    have e2 : [[D.int IntKind.i64 a.k, D.int IntKind.i64 a.n, D.list 3 (W.rows a.l)], [D.int IntKind.i64 b.k, D.int IntKind.i64 b.n, D.list 3 (W.rows b.l)]] = W.rows [a, b] := by rw [W.rows, W.rows, W.rows, W.row_eq, W.row_eq]
    have hf2 := C23 k' 1000 (by omega) (by omega) (by omega) [a, b] (by simp) (by simp only [List.length_cons, List.length_nil]; omega)
    rw [← e2] at hf2
    rw [hf2, g_oB]
    have hsz : W.sizes [a, b] = a.size + b.size := by rw [W.sizes, W.sizes, W.sizes]; omega
    by_cases q2 : ((W.sizes [a, b] : Nat) : Int) ≤ 1000
    · rw [decide_eq_true q2, Bool.not_true, cond_false, W.rows_len, O8.int_eqb]
      have hll := W.sizes_len l
      by_cases q3 : Int.ofNat l.length = 0
      · rw [decide_eq_true q3, cond_true, haw, g_oB]
      · have hpos : 0 < l.length := by simp only [Int.ofNat_eq_natCast] at q3; omega
        rw [decide_eq_false q3, cond_false, q11_0_eq, W.rows_len, decide_eq_false q3, cond_false, wrap_in n (by omega) (by omega)]
        obtain ⟨j, hj⟩ : ∃ j : Nat, Int.tmod n (Int.ofNat l.length) = Int.ofNat j := ⟨(Int.tmod n (Int.ofNat l.length)).toNat, by
          have := Int.tmod_nonneg (Int.ofNat l.length) h0
          simp only [Int.ofNat_eq_natCast] at *
          omega⟩
        have hjl : j < l.length := by
          have := Int.tmod_lt_of_pos n (show (0 : Int) < Int.ofNat l.length by simp only [Int.ofNat_eq_natCast]; omega)
          rw [hj] at this
          exact Int.ofNat_lt.1 this
        rw [hj, decide_eq_true (show (0 : Int) ≤ Int.ofNat j from Int.natCast_nonneg j), decide_eq_true (show Int.ofNat j ≤ Int.ofNat l.length by simp only [Int.ofNat_eq_natCast]; omega), tn, List.drop_zero, W.rows_take]
        simp only [Bool.and_self, cond_true]
        have s1 : (W.mk 4 0 (l.take j)).size = 1 + W.sizes (l.take j) := by rw [W.size]
        have s1' := W.sizes_take l j
        have s2 : (W.mk 4 0 l).size = 1 + W.sizes l := by rw [W.size]
        have s3 : (W.mk 4 0 (l ++ [a])).size = 1 + W.sizes l + a.size := by rw [W.size, W.sizes_app, W.sizes, W.sizes]; omega
        have s4 : (W.mk 4 0 (l ++ [b])).size = 1 + W.sizes l + b.size := by rw [W.size, W.sizes_app, W.sizes, W.sizes]; omega
        have c1 := C30 (k' + 1) (W.mk 4 0 (l.take j)) (W.mk 4 0 l) (by omega) (by omega)
        have c2 := C30 (k' + 1) (W.mk 4 0 (l ++ [a])) (W.mk 4 0 (l ++ [b])) (by omega) (by omega)
        have c3 := C30 (k' + 1) a b (by omega) (by omega)
        have p1 : W.cmp (W.mk 4 0 (l.take j)) (W.mk 4 0 l) = -1 := by
          rw [W.cmp_def]
          simp only [W.k_mk, W.n_mk, W.l_mk, (ordI_zero (4 : Int) 4).2 rfl, (ordI_zero (0 : Int) 0).2 rfl, ne_eq, not_true_eq_false, if_false]
          exact W.cmps_take l j hjl
        have p2 : W.cmp (W.mk 4 0 (l ++ [a])) (W.mk 4 0 (l ++ [b])) = W.cmp a b := by
          rw [W.cmp_def]
          simp only [W.k_mk, W.n_mk, W.l_mk, (ordI_zero (4 : Int) 4).2 rfl, (ordI_zero (0 : Int) 0).2 rfl, ne_eq, not_true_eq_false, if_false]
          rw [W.cmps_front, W.cmps_one]
        rw [p1] at c1
        rw [p2] at c2
        unfold W.v at c1 c2 c3
        simp only [W.k_mk, W.n_mk, W.l_mk] at c1 c2
        rw [C40, W.v, g_a3IIL3, C40, W.v, g_a3IIL3]
        simp only [W.k_mk, W.n_mk, W.l_mk]
        rw [c1, g_oI, O8.int_neb, decide_eq_true rfl, Bool.not_true, cond_false, q11_1_eq, W.rows_len]
        have ne : (W.rows l).isEmpty = false := by
          cases l with
          | nil => simp at hpos
          | cons x r => rw [W.rows]; rfl
        have nl : (([] : List (List D)) ++ W.rows l).length = l.length := by rw [List.nil_append, W.rows_len]
        rw [ne, nl, Bool.not_false, cond_true, Nat.ble_eq_true_of_le (show (0 + l.length) * 41 ≤ 140737488355328 by omega)]
        have b1 : ∀ x : List D, Nat.ble ((l.length + [x].length) * 41) 140737488355328 = true := fun x => Nat.ble_eq_true_of_le (by simp only [List.length_cons, List.length_nil]; omega)
        rw [b1, b1, ← W.rows_one, ← W.rows_one, List.nil_append, ← W.rows_app, ← W.rows_app]
        simp only [Bool.and_self, cond_true]
        rw [C40, W.v, g_a3IIL3, C40, W.v, g_a3IIL3]
        simp only [W.k_mk, W.n_mk, W.l_mk]
        rw [c2, g_oI, c3, g_oI, O8.int_eqb, decide_eq_true rfl, cond_true, haw, g_oB]
    · rw [decide_eq_false q2, Bool.not_false, cond_true, haw, g_oB]
  · rw [decide_eq_false q1, Bool.not_false, cond_true, haw, g_oB]
end Go.Proofs.YtkpdofiflhjahaaDoor.Ps
