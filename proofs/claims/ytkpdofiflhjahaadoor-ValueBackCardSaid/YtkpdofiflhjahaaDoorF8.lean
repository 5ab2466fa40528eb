/- Values: order; equality field by field. -/
import Derived.Test.YtkpdofiflhjahaaDoorFA
import Derived.Test.YtkpdofiflhjahaaDoorPvO
import Derived.Test.YtkpdofiflhjahaaDoorVk
namespace Go.Proofs.YtkpdofiflhjahaaDoor.Ps
set_option linter.unusedVariables false
set_option linter.unusedSimpArgs false
open Go Go.RowKit
namespace O8
theorem getD_mem {α : Type} [Inhabited α] (l : List α) (i : Nat) (h : i < l.length) : l.getD i default ∈ l := by
  rw [List.getD_eq_getElem?_getD, List.getElem?_eq_getElem h]; exact List.getElem_mem h
theorem drop_getD {α : Type} [Inhabited α] (l : List α) (i : Nat) (h : i < l.length) : l.drop i = l.getD i default :: l.drop (i + 1) := by
  rw [List.drop_eq_getElem_cons h, List.getD_eq_getElem?_getD, List.getElem?_eq_getElem h]; rfl
theorem mem_size {t : W} {l : List W} (h : t ∈ l) : t.size ≤ W.sizes l := by
  induction l with
  | nil => cases h
  | cons a r ih =>
    rw [W.sizes]
    rcases List.mem_cons.1 h with rfl | h
    · omega
    · have := ih h; omega
theorem int_eqb (a b : Int) : (a == b) = decide (a = b) := by rw [Bool.eq_iff_iff]; simp
theorem int_neb (a b : Int) : (a != b) = !decide (a = b) := by rw [Bool.eq_iff_iff]; simp
theorem ofNat_neb (a b : Nat) : (Int.ofNat a != Int.ofNat b) = !decide (a = b) := by
  rw [int_neb]
  congr 1
  rw [decide_eq_decide]
  exact ⟨Int.ofNat.inj, fun h => by rw [h]⟩
end O8
open O8
theorem W.k_mk (k n : Int) (l : List W) : (W.mk k n l).k = k := rfl
theorem W.n_mk (k n : Int) (l : List W) : (W.mk k n l).n = n := rfl
theorem W.l_mk (k n : Int) (l : List W) : (W.mk k n l).l = l := rfl
theorem W.cmp_def (a b : W) : W.cmp a b = if ordI a.k b.k ≠ 0 then ordI a.k b.k else if ordI a.n b.n ≠ 0 then ordI a.n b.n else W.cmps a.l b.l := by cases a; cases b; rw [W.cmp]; rfl
theorem W.cmps_drop (l s : List W) (i : Nat) (h : i < l.length) (h' : i < s.length) : W.cmps (l.drop i) (s.drop i) = if W.cmp (l.getD i default) (s.getD i default) ≠ 0 then W.cmp (l.getD i default) (s.getD i default) else W.cmps (l.drop (i + 1)) (s.drop (i + 1)) := by
  rw [drop_getD l i h, drop_getD s i h', W.cmps]
theorem C57 (k : Nat) (a b : Int) : Ak (k + 2) 57 [iV a, iV b] [] = some (R (iV (ordI a b))) := by
  have h77 : ∀ x : Int, Ak (k + 1) 77 [iV x] [] = some (R (bV false)) := fun x => by
    refine (call77 k x).trans ?_
    rw [e77_eq, int_neb, decide_eq_true rfl]; rfl
  refine (call57 (k + 1) a b).trans ?_
  rw [e57_eq, h77, g_oB, h77, g_oB, cond_false, q57_1_eq, cond_false, q57_2_eq, q57_3_eq, q57_4_eq]
  unfold ordI
  by_cases h : a < b
  · rw [decide_eq_true h, cond_true, if_pos h]
  · rw [decide_eq_false h, cond_false, if_neg h]
    by_cases h2 : b < a
    · rw [decide_eq_true (show a > b from h2), cond_true, if_pos h2]
    · rw [decide_eq_false (show ¬ a > b from h2), cond_false, if_neg h2]
theorem C59 (k : Nat) (a b : Int) : Ak (k + 1) 59 [iV a, iV b] [] = some (R (iV (ordI a b))) := by
  refine (call59 k a b).trans ?_
  rw [e59_eq, q59_0_eq]
  unfold ordI
  by_cases h : a < b
  · rw [decide_eq_true h, cond_true, if_pos h]
  · rw [decide_eq_false h, cond_false, if_neg h]
    by_cases h2 : b < a
    · rw [decide_eq_true (show a > b from h2), cond_true, if_pos h2]
    · rw [decide_eq_false (show ¬ a > b from h2), cond_false, if_neg h2]
theorem L58 (k : Nat) (l s : List W) (n2 : Nat) (hl : l.length ≤ 1000000) (hΓ : ∀ a ∈ l, ∀ b : W, Ak k 30 [a.v, b.v] [] = some (R (iV (W.cmp a b)))) :
    ∀ (m i : Nat), i ≤ l.length → i ≤ s.length → l.length - i < m → l58_0 m (Ak k) n2 (W.rows l) (W.rows s) (W.rows l) (Int.ofNat l.length) (Int.ofNat i) = some (R (iV (W.cmps (l.drop i) (s.drop i)))) := by
  intro m
  induction m with
  | zero => intro i _ _ h; omega
  | succ m ih =>
    intro i h1 h2 h
    rw [l58_0_eq]
    by_cases hi : i < l.length
    · rw [lt_yes i _ hi, cond_true, q58_0_eq, W.rows_len, W.rows_len, in_range i _ hi, cond_true]
      by_cases hs : i < s.length
      · have := hΓ (l.getD i default) (getD_mem l i hi) (s.getD i default)
        unfold W.v at this
        rw [decide_eq_false (show ¬ Int.ofNat i ≥ Int.ofNat s.length by simp only [Int.ofNat_eq_natCast]; omega), cond_false, q58_1_eq, W.rows_len, in_range i _ hs, cond_true, tn, W.rows_at l i hi, W.rows_at s i hs]
        simp only [getD0, getD1, getD2]
        rw [this, g_oI, int_neb, W.cmps_drop l s i hi hs]
        by_cases h0 : W.cmp (l.getD i default) (s.getD i default) = 0
        · rw [decide_eq_true h0, Bool.not_true, cond_false, if_neg (fun q => q h0), q58_2_eq, wrap_up i (by omega)]
          exact ih (i + 1) (by omega) (by omega) (by omega)
        · rw [decide_eq_false h0, Bool.not_false, cond_true, if_pos h0]
      · rw [decide_eq_true (show Int.ofNat i ≥ Int.ofNat s.length by simp only [Int.ofNat_eq_natCast]; omega), cond_true, drop_getD l i hi, List.drop_eq_nil_of_le (show s.length ≤ i by omega), W.cmps]
    · rw [lt_no i _ (by omega), cond_false, q58_3_eq, W.rows_len, W.rows_len, List.drop_eq_nil_of_le (show l.length ≤ i by omega), q58_4_eq]
      by_cases hs : i < s.length
      · rw [lt_yes _ _ (by omega), cond_true, drop_getD s i hs, W.cmps]
      · rw [lt_no _ _ (by omega), cond_false, List.drop_eq_nil_of_le (show s.length ≤ i by omega), W.cmps]
theorem C30 : ∀ (k : Nat) (a b : W), a.size ≤ 1000000 → 2 * a.size + 4 ≤ k → Ak k 30 [a.v, b.v] [] = some (R (iV (W.cmp a b)))
  | 0, a, b, _, h => by omega
  | 1, a, b, _, h => by omega
  | 2, a, b, _, h => by have := a.size_pos; omega
  | k + 3, a, b, hs, hk => by
    have hsz := a.size_eq
    have hlen := W.sizes_len a.l
    refine (call30 (k + 2) a.k a.n (W.rows a.l) b.k b.n (W.rows b.l)).trans ?_
    rw [e30_eq, C57, g_oI, W.cmp_def, int_eqb]
    by_cases h1 : ordI a.k b.k = 0
    · rw [decide_eq_true h1, cond_true, C57, g_oI, q30_0_eq, if_neg (fun q => q h1), int_eqb]
      by_cases h2 : ordI a.n b.n = 0
      · have h58 : Ak (k + 2) 58 [V.one (X.d (D.list 3 (W.rows a.l))), V.one (X.d (D.list 3 (W.rows b.l))), V.one (X.fn 30 [])] [] = some (R (iV (W.cmps a.l b.l))) := by
          refine (call58 (k + 1) (W.rows a.l) (W.rows b.l)).trans ?_
          rw [e58_eq, W.rows_len]
          have := L58 (k + 1) a.l b.l (k + 1) (by omega) (fun x hx y => C30 (k + 1) x y (by have := mem_size hx; omega) (by have := mem_size hx; omega)) (k + 1) 0 (by omega) (by omega) (by omega)
          exact this
        rw [decide_eq_true h2, cond_true, h58, g_oI, q30_1_eq, if_neg (fun q => q h2)]
      · rw [decide_eq_false h2, cond_false, q30_1_eq, if_pos h2]
    · rw [decide_eq_false h1, cond_false, q30_0_eq, if_pos h1, int_eqb, decide_eq_false h1, cond_false, q30_1_eq]
theorem cmps_run (l s : List W) : ∀ i : Nat, (∀ j, j < i → True) → W.cmps (l.drop i) (s.drop i) = if i < l.length ∧ i < s.length then (if W.cmp (l.getD i default) (s.getD i default) ≠ 0 then W.cmp (l.getD i default) (s.getD i default) else W.cmps (l.drop (i + 1)) (s.drop (i + 1))) else ordI ((l.length - i : Nat) : Int) ((s.length - i : Nat) : Int) := by
  intro i _
  by_cases h : i < l.length ∧ i < s.length
  · rw [if_pos h, W.cmps_drop l s i h.1 h.2]
  · rw [if_neg h]
    by_cases h1 : i < l.length
    · rw [drop_getD l i h1, List.drop_eq_nil_of_le (show s.length ≤ i by omega), W.cmps]
      unfold ordI
      rw [if_neg (by omega), if_pos (by omega)]
    · by_cases h2 : i < s.length
      · rw [drop_getD s i h2, List.drop_eq_nil_of_le (show l.length ≤ i by omega), W.cmps]
        unfold ordI
        rw [if_pos (by omega)]
      · rw [List.drop_eq_nil_of_le (show l.length ≤ i by omega), List.drop_eq_nil_of_le (show s.length ≤ i by omega), W.cmps]
        unfold ordI
        rw [if_neg (by omega), if_neg (by omega)]
theorem L31 (k : Nat) (l s : List W) (n2 : Nat) (z1 z2 z3 z4 : Int) (hl : l.length ≤ 1000000) (hk : 1 ≤ n2) (hk1 : 1 ≤ k) (hΓ : ∀ a ∈ l, ∀ b : W, Ak k 31 [a.v, b.v] [] = some (R (iV (W.cmp a b)))) :
    ∀ (m i : Nat) (c : Int), i ≤ l.length → i ≤ s.length → l.length - i + 1 < m → l31_0 m (Ak k) n2 c (Int.ofNat i) z1 z2 (W.rows l) z3 z4 (W.rows s) = some (R (iV (if c ≠ 0 then c else W.cmps (l.drop i) (s.drop i)))) := by
  intro m
  induction m with
  | zero => intro i c _ _ h; omega
  | succ m ih =>
    intro i c h1 h2 h
    rw [l31_0_eq, int_eqb]
    have fin : c = 0 → ¬ (i < l.length ∧ i < s.length) → q31_3 (Ak k) n2 c z1 z2 (W.rows l) z3 z4 (W.rows s) = some (R (iV (W.cmps (l.drop i) (s.drop i)))) := by
      intro hc hn
      obtain ⟨k, rfl⟩ : ∃ k', k = k' + 1 := ⟨k - 1, by omega⟩
      have h59 := C59 k (Int.ofNat l.length) (Int.ofNat s.length)
      rw [q31_3_eq, int_eqb, decide_eq_true hc, cond_true, W.rows_len, W.rows_len, h59, g_oI, q31_4_eq, cmps_run l s i (fun _ _ => trivial), if_neg hn]
      refine retI ?_
      unfold ordI
      split <;> split <;> (try split) <;> (try split) <;> simp only [Int.ofNat_eq_natCast] at * <;> omega
    by_cases hc : c = 0
    · rw [decide_eq_true hc, cond_true, if_neg (fun q => q hc), W.rows_len, W.rows_len]
      by_cases hi : i < l.length
      · rw [lt_yes i _ hi, cond_true]
        by_cases hs : i < s.length
        · have := hΓ (l.getD i default) (getD_mem l i hi) (s.getD i default)
          unfold W.v at this
          rw [lt_yes i _ hs, cond_true, q31_1_eq, W.rows_len, W.rows_len, in_range i _ hi, cond_true, in_range i _ hs, cond_true, tn, W.rows_at l i hi, W.rows_at s i hs]
          simp only [getD0, getD1, getD2]
          rw [this, g_oI, q31_2_eq, wrap_up i (by omega), ih (i + 1) _ (by omega) (by omega) (by omega), W.cmps_drop l s i hi hs]
        · rw [lt_no i _ (by omega), cond_false, fin hc (by omega)]
      · rw [lt_no i _ (by omega), cond_false, fin hc (by omega)]
    · rw [decide_eq_false hc, cond_false, q31_3_eq, int_eqb, decide_eq_false hc, cond_false, q31_4_eq, if_pos hc]
theorem C31 : ∀ (k : Nat) (a b : W), a.size ≤ 1000000 → a.size + 6 ≤ k → Ak k 31 [a.v, b.v] [] = some (R (iV (W.cmp a b)))
  | 0, a, b, _, h => by omega
  | 1, a, b, _, h => by omega
  | k + 2, a, b, hs, hk => by
    have hsz := a.size_eq
    have hlen := W.sizes_len a.l
    refine (call31 (k + 1) a.k a.n (W.rows a.l) b.k b.n (W.rows b.l)).trans ?_
    rw [e31_eq, C59, g_oI, W.cmp_def, int_eqb]
    have loop : ∀ c : Int, q31_0 (Ak (k + 1)) (k + 1) c a.k a.n (W.rows a.l) b.k b.n (W.rows b.l) = some (R (iV (if c ≠ 0 then c else W.cmps a.l b.l))) := fun c => by
      rw [q31_0_eq]
      exact L31 (k + 1) a.l b.l (k + 1) a.k a.n b.k b.n (by omega) (by omega) (by omega) (fun x hx y => C31 (k + 1) x y (by have := mem_size hx; omega) (by have := mem_size hx; omega)) (k + 1) 0 c (by omega) (by omega) (by omega)
    by_cases h1 : ordI a.k b.k = 0
    · rw [decide_eq_true h1, cond_true, C59, g_oI, loop, if_neg (show ¬ ordI a.k b.k ≠ 0 from fun q => q h1)]
    · rw [decide_eq_false h1, cond_false, loop, if_pos h1, if_pos h1]
theorem C32 (k : Nat) (a b : W) (hs : a.size ≤ 1000000) (hk : 2 * a.size + 5 ≤ k) : Ak k 32 [a.v, b.v] [] = some (R (bV (decide (W.cmp a b = 0)))) := by
  obtain ⟨k, rfl⟩ : ∃ k', k = k' + 1 := ⟨k - 1, by omega⟩
  refine (call32 k a.k a.n (W.rows a.l) b.k b.n (W.rows b.l)).trans ?_
  have := C30 k a b hs (by omega)
  unfold W.v at this
  rw [e32_eq, this, g_oI, int_eqb]
theorem C33 (k : Nat) (a b : W) (hs : a.size ≤ 1000000) (hk : a.size + 7 ≤ k) : Ak k 33 [a.v, b.v] [] = some (R (bV (decide (W.cmp a b = 0)))) := by
  obtain ⟨k, rfl⟩ : ∃ k', k = k' + 1 := ⟨k - 1, by omega⟩
  refine (call33 k a.k a.n (W.rows a.l) b.k b.n (W.rows b.l)).trans ?_
  have := C31 k a b hs (by omega)
  unfold W.v at this
  rw [e33_eq, this, g_oI, int_eqb]
/-! ### field by field -/
theorem W.beqs_drop (l s : List W) (i : Nat) (h : i < l.length) (h' : i < s.length) : W.beqs (l.drop i) (s.drop i) = (W.beq (l.getD i default) (s.getD i default) && W.beqs (l.drop (i + 1)) (s.drop (i + 1))) := by
  rw [drop_getD l i h, drop_getD s i h', W.beqs]
theorem W.beqs_len : ∀ (l s : List W), l.length ≠ s.length → W.beqs l s = false
  | [], [], h => absurd rfl h
  | [], _ :: _, _ => by rw [W.beqs] <;> simp
  | _ :: _, [], _ => by rw [W.beqs] <;> simp
  | a :: r, b :: s, h => by rw [W.beqs, W.beqs_len r s (by simpa using h), Bool.and_false]
theorem W.beq_def (a b : W) : W.beq a b = (decide (a.k = b.k) && decide (a.n = b.n) && W.beqs a.l b.l) := by cases a; cases b; rw [W.beq]; rfl
theorem L38 (k : Nat) (l s : List W) (n2 : Nat) (z1 z2 z3 z4 : Int) (hll : l.length = s.length) (hl : l.length ≤ 1000000) (hΓ : ∀ a ∈ l, ∀ b : W, Ak k 38 [a.v, b.v] [] = some (R (bV (W.beq a b)))) :
    ∀ (m i : Nat), l.length - i < m → l38_0 m (Ak k) n2 (Int.ofNat i) z1 z2 (W.rows l) z3 z4 (W.rows s) = some (R (bV (W.beqs (l.drop i) (s.drop i)))) := by
  intro m
  induction m with
  | zero => intro i h; omega
  | succ m ih =>
    intro i h
    rw [l38_0_eq, W.rows_len]
    by_cases hi : i < l.length
    · have := hΓ (l.getD i default) (getD_mem l i hi) (s.getD i default)
      unfold W.v at this
      rw [lt_yes i _ hi, cond_true, q38_1_eq, W.rows_len, W.rows_len, in_range i _ hi, cond_true, in_range i _ (by omega), cond_true, tn, W.rows_at l i hi, W.rows_at s i (by omega)]
      simp only [getD0, getD1, getD2]
      rw [this, g_oB, W.beqs_drop l s i hi (by omega)]
      cases W.beq (l.getD i default) (s.getD i default) with
      | false => rfl
      | true => rw [Bool.true_and, ← ih (i + 1) (by omega), Bool.not_true, cond_false, q38_2_eq, wrap_up i (by omega)]
    · rw [lt_no i _ (by omega), cond_false, q38_3_eq, List.drop_eq_nil_of_le (by omega), List.drop_eq_nil_of_le (by omega), W.beqs]
theorem C38 : ∀ (k : Nat) (a b : W), a.size ≤ 1000000 → a.size + 2 ≤ k → Ak k 38 [a.v, b.v] [] = some (R (bV (W.beq a b)))
  | 0, a, b, _, h => by omega
  | k + 1, a, b, hs, hk => by
    have hsz := a.size_eq
    have hlen := W.sizes_len a.l
    refine (call38 k a.k a.n (W.rows a.l) b.k b.n (W.rows b.l)).trans ?_
    rw [e38_eq, W.beq_def, int_neb, int_neb, W.rows_len, W.rows_len, ofNat_neb]
    by_cases h1 : a.k = b.k
    · rw [decide_eq_true h1, Bool.not_true, cond_false, Bool.true_and]
      by_cases h2 : a.n = b.n
      · rw [decide_eq_true h2, Bool.not_true, cond_false, Bool.true_and]
        by_cases h3 : a.l.length = b.l.length
        · rw [decide_eq_true h3, Bool.not_true, cond_false, q38_0_eq]
          exact L38 k a.l b.l k a.k a.n b.k b.n h3 (by omega) (fun x hx y => C38 k x y (by have := mem_size hx; omega) (by have := mem_size hx; omega)) k 0 (by omega)
        · rw [decide_eq_false h3, Bool.not_false, cond_true, W.beqs_len _ _ h3]
      · rw [decide_eq_false h2, Bool.not_false, cond_true, Bool.false_and]
    · rw [decide_eq_false h1, Bool.not_false, cond_true, Bool.false_and, Bool.false_and]
theorem C40 (k : Nat) (l : List W) : Ak (k + 1) 40 [V.one (X.d (D.list 3 (W.rows l)))] [] = some (R (W.v (.mk 4 0 l))) := by
  refine (call40 k (W.rows l)).trans ?_
  rw [e40_eq]; rfl
theorem awake_call8 : Ak 1000000 13 [] [] = some (R (bV true)) := awake_run
end Go.Proofs.YtkpdofiflhjahaaDoor.Ps
