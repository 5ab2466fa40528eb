/- Values: size; what a type has. -/
import Derived.Test.YtkpdofiflhjahaaDoorFA
import Derived.Test.YtkpdofiflhjahaaDoorPvS
import Derived.Test.YtkpdofiflhjahaaDoorVA
namespace Go.Proofs.YtkpdofiflhjahaaDoor.Ps
section
set_option linter.unusedVariables false
set_option linter.unusedSimpArgs false
open Go Go.RowKit
/-- The size, up to 1001. -/
def capW (n : Nat) : Int := if n ≤ 1000 then n else 1001
theorem L28 (k : Nat) (l : List W) (n2 : Nat) (hl : l.length ≤ 1000000) (hΓ : ∀ t ∈ l, Ak k 28 [t.v] [] = some (R (iV (capW t.size)))) :
    ∀ (m i : Nat) (s : Nat), s ≤ 1000 → l.length - i < m → l28_0 m (Ak k) n2 s (W.rows l) (Int.ofNat l.length) (Int.ofNat i) = some (R (iV (capW (s + W.sizes (l.drop i))))) := by
  intro m
  induction m with
  | zero => intro i s _ h; omega
  | succ m ih =>
    intro i s hs h
    rw [l28_0_eq]
    by_cases hi : i < l.length
    · have := hΓ (l.getD i default) (getD_mem l i hi)
      unfold W.v at this
      have hc : capW (l.getD i default).size ≤ 1001 ∧ 0 ≤ capW (l.getD i default).size := by unfold capW; split <;> omega
      rw [lt_yes i _ hi, cond_true, q28_0_eq, W.rows_len, in_range i _ hi, cond_true, tn, W.rows_at l i hi]
      simp only [getD0, getD1, getD2]
      rw [this, g_oI, wrap_in _ (by omega) (by omega), W.sizes_drop l i hi]
      have h3 := W.size_pos (l.getD i default)
      by_cases hb : s + (l.getD i default).size ≤ 1000
      · have e : capW (l.getD i default).size = ((l.getD i default).size : Int) := by unfold capW; rw [if_pos (by omega)]
        rw [e, if_neg (show ¬ (1001 : Int) < (s : Int) + ((l.getD i default).size : Int) by omega), decide_eq_false (show ¬ (s : Int) + ((l.getD i default).size : Int) > 1000 by omega), cond_false, q28_1_eq, wrap_up i (by omega)]
        have := ih (i + 1) (s + (l.getD i default).size) hb (by omega)
        rw [Int.natCast_add] at this
        rw [this, Nat.add_assoc]
      · have e : (if (1001 : Int) < (s : Int) + capW (l.getD i default).size then (1001 : Int) else (s : Int) + capW (l.getD i default).size) = 1001 := by
          unfold capW
          split <;> split <;> omega
        rw [e, decide_eq_true (by decide), cond_true, q28_2_eq]
        refine retI ?_
        unfold capW
        rw [if_neg (by omega)]
    · rw [lt_no i _ (by omega), cond_false, q28_2_eq, List.drop_eq_nil_of_le (by omega), W.sizes]
      refine retI ?_
      unfold capW
      rw [if_pos (by omega)]; omega
theorem C28 : ∀ (k : Nat) (t : W), t.size ≤ 1000000 → t.size + 3 ≤ k → Ak k 28 [t.v] [] = some (R (iV (capW t.size)))
  | 0, t, _, h => by omega
  | k + 1, t, hs, hk => by
    have hsz := t.size_eq
    have hlen := W.sizes_len t.l
    refine (call28 k t.k t.n (W.rows t.l)).trans ?_
    rw [e28_eq, W.rows_len]
    have := L28 k t.l k (by omega) (fun x hx => C28 k x (by have := W.mem_size hx; omega) (by have := W.mem_size hx; omega)) k 0 1 (by omega) (by omega)
    rw [List.drop_zero] at this
    rw [hsz]
    exact this
theorem L56 (k : Nat) (l : List W) (n2 : Nat) (x3 x4 : Int) (hl : l.length ≤ 1000000) (hΓ : ∀ t ∈ l, ∀ n : Int, 0 ≤ n → n ≤ 1000 → Ak k 56 [t.v, iV n] [] = some (R (iV (capL (n + 1) (t.size - 1 : Nat) 1000)))) :
    ∀ (m i : Nat) (n : Int), 0 ≤ n → n ≤ 1001 → l.length - i < m → l56_0 m (Ak k) n2 n (Int.ofNat i) x3 x4 (W.rows l) = some (R (iV (capL n (W.sizes (l.drop i)) 1000))) := by
  intro m
  induction m with
  | zero => intro i n _ _ h; omega
  | succ m ih =>
    intro i n h0 h1 h
    rw [l56_0_eq, W.rows_len]
    by_cases hi : i < l.length
    · rw [lt_yes i _ hi, cond_true]
      by_cases hn : n ≤ 1000
      · have := hΓ (l.getD i default) (getD_mem l i hi) n h0 hn
        unfold W.v at this
        rw [decide_eq_true hn, cond_true, q56_0_eq, W.rows_len, in_range i _ hi, cond_true, tn, W.rows_at l i hi]
        simp only [getD0, getD1, getD2]
        rw [this, g_oI, q56_1_eq, wrap_up i (by omega)]
        have h3 := W.size_pos (l.getD i default)
        have h4 : n + 1 ≤ capL (n + 1) ((l.getD i default).size - 1 : Nat) 1000 := capL_mono (by omega)
        have h6 : capL (n + 1) ((l.getD i default).size - 1 : Nat) 1000 ≤ 1001 := by unfold capL; split <;> (try split) <;> omega
        rw [ih (i + 1) _ (by omega) h6 (by omega), W.sizes_drop l i hi]
        refine retI ?_
        unfold capL
        split <;> split <;> (try split) <;> (try split) <;> omega
      · rw [decide_eq_false hn, cond_false, q56_2_eq]
        refine retI ?_
        unfold capL
        rw [if_pos (by omega)]
    · rw [lt_no i _ (by omega), cond_false, q56_2_eq, List.drop_eq_nil_of_le (by omega), W.sizes]
      refine retI ?_
      unfold capL
      split <;> (try split) <;> omega
theorem C56 : ∀ (k : Nat) (t : W) (n : Int), t.size ≤ 1000000 → t.size + 3 ≤ k → 0 ≤ n → n ≤ 1000 → Ak k 56 [t.v, iV n] [] = some (R (iV (capL (n + 1) (t.size - 1 : Nat) 1000)))
  | 0, t, n, _, h, _, _ => by omega
  | k + 1, t, n, hs, hk, h0, h1 => by
    have hsz := t.size_eq
    have hlen := W.sizes_len t.l
    refine (call56 k t.k t.n (W.rows t.l) n).trans ?_
    rw [e56_eq, wrap_in _ (by omega) (by omega)]
    have := L56 k t.l k t.k t.n (by omega) (fun x hx n h0 h1 => C56 k x n (by have := W.mem_size hx; omega) (by have := W.mem_size hx; omega) h0 h1) k 0 (n + 1) (by omega) (by omega) (by omega)
    rw [List.drop_zero] at this
    rw [hsz, Nat.add_sub_cancel_left]
    exact this
theorem C29 (k : Nat) (t : W) (hs : t.size ≤ 1000000) (hk : t.size + 4 ≤ k) : Ak k 29 [t.v] [] = some (R (iV (capW t.size))) := by
  obtain ⟨k, rfl⟩ : ∃ k', k = k' + 1 := ⟨k - 1, by omega⟩
  refine (call29 k t.k t.n (W.rows t.l)).trans ?_
  have := C56 k t 0 hs (by omega) (by omega) (by omega)
  unfold W.v at this
  rw [e29_eq, this, g_oI]
  refine retI ?_
  have := t.size_pos
  unfold capL capW
  split <;> (try split) <;> (try split) <;> omega
/-! ### has -/
theorem all2_drop {α β : Type} [Inhabited α] [Inhabited β] (f : α → β → Bool) (l : List α) (s : List β) (i : Nat) (h : i < l.length) (h' : i < s.length) :
    all2 f (l.drop i) (s.drop i) = (f (l.getD i default) (s.getD i default) && all2 f (l.drop (i + 1)) (s.drop (i + 1))) := by
  rw [drop_getD l i h, drop_getD s i h', all2]
theorem L72 (k : Nat) (f : T → W → Bool) (l : List T) (s : List W) (n2 : Nat) (hll : l.length = s.length) (hl : l.length ≤ 1000000) (hΓ : ∀ a ∈ l, ∀ b ∈ s, Ak k 51 [a.v, b.v] [] = some (R (bV (f a b)))) :
    ∀ (m i : Nat), l.length - i < m → l72_0 m (Ak k) n2 (W.rows s) (T.rows l) (Int.ofNat l.length) (Int.ofNat i) = some (R (bV (all2 f (l.drop i) (s.drop i)))) := by
  intro m
  induction m with
  | zero => intro i h; omega
  | succ m ih =>
    intro i h
    rw [l72_0_eq]
    by_cases hi : i < l.length
    · have := hΓ (l.getD i default) (getD_mem l i hi) (s.getD i default) (getD_mem s i (by omega))
      unfold T.v W.v at this
      rw [lt_yes i _ hi, cond_true, q72_1_eq, T.rows_len, W.rows_len, in_range i _ hi, cond_true, in_range i _ (by omega), cond_true, tn, T.rows_at l i hi, W.rows_at s i (by omega)]
      simp only [getD0, getD1, getD2]
      rw [this, g_oB, all2_drop f l s i hi (by omega)]
      cases f (l.getD i default) (s.getD i default) with
      | false => rfl
      | true => rw [Bool.true_and, ← ih (i + 1) (by omega), Bool.not_true, cond_false, q72_2_eq, wrap_up i (by omega)]
    · rw [lt_no i _ (by omega), cond_false, q72_3_eq, List.drop_eq_nil_of_le (by omega), List.drop_eq_nil_of_le (by omega)]
      rfl
def rT (k : Int) (l : List T) : List (List Lf × List D) := [([Lf.int IntKind.i64, Lf.lst 2], [D.int IntKind.i64 k, D.list 2 (T.rows l)])]
theorem L87 (k : Nat) (f : W → Bool) (κ : Int) (l : List T) (s : List W) (n2 : Nat) (z : Int) (zl : List (List D)) (hl : s.length ≤ 1000000)
    (hΓ : ∀ t ∈ s, Ak k 74 [t.v, V.one (X.ptr 0 0)] (rT κ l) = some (Out.mk true (bV (!f t)) .junk [[D.int IntKind.i64 κ, D.list 2 (T.rows l)]] 0)) :
    ∀ (m i : Nat), s.length - i < m → ∃ j : Int, l87_0 m (Ak k) n2 z zl (W.rows s) (Int.ofNat s.length) (Int.ofNat i) κ (T.rows l) = some (Out.mk true (iV j) .junk [[D.int IntKind.i64 κ, D.list 2 (T.rows l)]] 0) ∧ decide (j ≥ 0) = !(s.drop i).all f := by
  intro m
  induction m with
  | zero => intro i h; omega
  | succ m ih =>
    intro i h
    rw [l87_0_eq]
    by_cases hi : i < s.length
    · rw [lt_yes i _ hi, cond_true, q87_0_eq, W.rows_len, in_range i _ hi, cond_true, tn, W.rows_at s i hi]
      simp only [getD0, getD1, getD2]
      have := hΓ (s.getD i default) (getD_mem s i hi)
      unfold W.v rT at this
      rw [this]
      simp only [Option.bind_some, getD0, getD1, getD2, isInt_i, Bool.and_true, Bool.true_and, Bool.and_self, cond_true, cond_false, len_1, len_2, len_3, isOne1, isTup2, isTup3, isAgg2, isAgg3, comp0, comp1, comp2, cell1, cella0, cella1, cella2, isD_d, dd_d, isBool_b, bit_b, num_i, isStr_s, bytes_s, isList_2, isList_3, rows_l, nb_0]
      cases hd : f (s.getD i default) with
      | false =>
        refine ⟨(i : Int), rfl, ?_⟩
        rw [all_drop _ s i hi, hd]
        simp
      | true =>
        obtain ⟨j, h1, h2⟩ := ih (i + 1) (by omega)
        refine ⟨j, ?_, ?_⟩
        · rw [Bool.not_true, cond_false, q87_1_eq, wrap_up i (by omega)]
          exact h1
        · rw [h2, all_drop _ s i hi, hd, Bool.true_and]
    · refine ⟨-1, ?_, ?_⟩
      · rw [lt_no i _ (by omega), cond_false, q87_2_eq]
      · rw [drop_all _ s i (by omega)]; rfl
theorem emptyB {α : Type} (l : List α) : (Int.ofNat l.length == 0) = l.isEmpty := by
  cases l with
  | nil => rfl
  | cons a r => rw [int_eqb]; simp; omega
theorem C51 : ∀ (n k : Nat) (t : T) (v : W), deepT n t = true → v.size ≤ 1000000 → 6 * n + 60 ≤ k → n ≤ 1000 → Ak k 51 [t.v, v.v] [] = some (R (bV (hasT n t v)))
  | 0, _, _, _, h, _, _, _ => by cases h
  | n + 1, 0, _, _, _, _, h, _ => by omega
  | n + 1, k + 1, .mk κ l, .mk κ' m vs, hd, hv, hk, hn => by
    refine (call51 k κ (T.rows l) κ' m (W.rows vs)).trans ?_
    have hlen := W.sizes_len vs
    have hvs : (W.mk κ' m vs).size = 1 + W.sizes vs := by rw [W.size]
    rw [e51_eq, int_neb, hasT]
    by_cases h0 : κ' = κ
    · rw [decide_eq_true h0, Bool.not_true, cond_false, Bool.true_and, q51_0_eq, W.rows_len, emptyB]
      simp only [int_eqb]
      by_cases h1 : κ = 1
      · rw [decide_eq_true h1, cond_true, if_pos h1]
        by_cases m0 : m = 0
        · rw [decide_eq_true m0, cond_true]; simp
        · rw [decide_eq_false m0, cond_false]
          by_cases m1 : m = 1
          · rw [decide_eq_true m1, cond_true]; simp
          · rw [decide_eq_false m1, cond_false]; simp
      · rw [decide_eq_false h1, cond_false, if_neg h1]
        by_cases h2 : κ = 2
        · rw [decide_eq_true h2, cond_true, if_pos h2]
          by_cases m0 : m ≥ -2147483648
          · rw [decide_eq_true m0, cond_true]
            by_cases m1 : m ≤ 2147483647
            · rw [decide_eq_true m1, cond_true]; simp
            · rw [decide_eq_false m1, cond_false]; simp
          · rw [decide_eq_false m0, cond_false]; simp
        · rw [decide_eq_false h2, cond_false, if_neg h2]
          unfold deepT at hd
          rw [if_neg (show ¬ (κ = 1 ∨ κ = 2) by omega)] at hd
          by_cases h3 : κ = 3
          · rw [decide_eq_true h3, cond_true, if_pos h3]
            rw [if_pos h3] at hd
            simp only [Bool.and_eq_true, decide_eq_true_eq, List.all_eq_true] at hd
            by_cases m0 : m = 0
            · rw [decide_eq_true m0, cond_true, Bool.true_and]
              obtain ⟨k, rfl⟩ : ∃ k', k = k' + 1 := ⟨k - 1, by omega⟩
              have h72 : Ak (k + 1) 72 [V.one (X.d (D.list 2 (T.rows l))), V.one (X.d (D.list 3 (W.rows vs))), V.one (X.fn 51 [])] [] = some (R (bV (all2 (hasT n) l vs))) := by
                refine (call72 k (T.rows l) (W.rows vs)).trans ?_
                rw [e72_eq, T.rows_len, W.rows_len, ofNat_neb]
                by_cases hl : l.length = vs.length
                · rw [decide_eq_true hl, Bool.not_true, cond_false, q72_0_eq, T.rows_len]
                  exact L72 k (hasT n) l vs k hl (by omega) (fun a ha b hb => C51 n k a b (hd.2 a ha) (by have := W.mem_size hb; omega) (by omega) (by omega)) k 0 (by omega)
                · rw [decide_eq_false hl, Bool.not_false, cond_true, all2_len _ _ _ hl]
              rw [h72, g_oB]
            · rw [decide_eq_false m0, cond_false, Bool.false_and]
          · rw [decide_eq_false h3, cond_false, if_neg h3, q51_1_eq, W.rows_len]
            rw [if_neg h3] at hd
            by_cases h4 : κ = 4
            · rw [if_pos h4] at hd
              simp only [Bool.and_eq_true, decide_eq_true_eq, List.all_eq_true] at hd
              rw [int_eqb]
              by_cases m0 : m = 0
              · rw [decide_eq_true m0, cond_true, Bool.true_and]
                by_cases hc : vs.length ≤ 32
                · rw [decide_eq_true (show Int.ofNat vs.length ≤ 32 by simp only [Int.ofNat_eq_natCast]; omega), cond_true, decide_eq_true hc, Bool.true_and]
                  obtain ⟨k3, rfl⟩ : ∃ k3, k = k3 + 3 := ⟨k - 3, by omega⟩
                  have hl0 : l.getD 0 (.mk 0 []) ∈ l := by
                    match l, hd.1 with
                    | [a], _ => simp
                  have h74 : ∀ t ∈ vs, Ak (k3 + 1) 74 [t.v, V.one (X.ptr 0 0)] (rT κ l) = some (Out.mk true (bV (!hasT n (l.getD 0 (.mk 0 [])) t)) .junk [[D.int IntKind.i64 κ, D.list 2 (T.rows l)]] 0) := fun t ht => by
                    refine (call74 k3 t.k t.n (W.rows t.l) κ (T.rows l)).trans ?_
                    have := C51 n k3 (l.getD 0 (.mk 0 [])) t (hd.2 _ hl0) (by have := W.mem_size ht; omega) (by omega) (by omega)
                    unfold T.v W.v at this
                    rw [e74_eq, T.rows_len, decide_eq_true (show (0 : Int) < Int.ofNat l.length by rw [hd.1]; decide), Bool.and_self, cond_true, T.rows_at l 0 (by omega)]
                    simp only [getD0, getD1]
                    rw [show l.getD 0 default = l.getD 0 (.mk 0 []) from rfl, this, g_oB]
                  obtain ⟨j, q1, q2⟩ := L87 (k3 + 1) (hasT n (l.getD 0 (.mk 0 []))) κ l vs (k3 + 1) κ (T.rows l) (by omega) h74 (k3 + 1) 0 (by omega)
                  have h87 : Ak (k3 + 2) 87 [V.one (X.d (D.list 3 (W.rows vs))), V.one (X.fn 74 [X.ptr 0 0])] (rT κ l) = some (Out.mk true (iV j) .junk [[D.int IntKind.i64 κ, D.list 2 (T.rows l)]] 0) := by
                    refine (call87 (k3 + 1) (W.rows vs) κ (T.rows l)).trans ?_
                    rw [e87_eq, W.rows_len]
                    exact q1
                  have h73 : Ak (k3 + 3) 73 [V.one (X.d (D.list 3 (W.rows vs))), V.one (X.fn 74 [X.ptr 0 0])] (rT κ l) = some (Out.mk true (bV (!vs.all (hasT n (l.getD 0 (.mk 0 []))))) .junk [[D.int IntKind.i64 κ, D.list 2 (T.rows l)]] 0) := by
                    refine (call73 (k3 + 2) (W.rows vs) κ (T.rows l)).trans ?_
                    unfold rT at h87
                    rw [e73_eq, h87]
                    refine Eq.trans (b := some (Out.mk true (bV (decide (j ≥ 0))) D.junk [[D.int IntKind.i64 κ, D.list 2 (T.rows l)]] 0)) rfl ?_
                    rw [q2, List.drop_zero]
                  unfold rT at h73
                  rw [h73]
                  simp only [Option.bind_some, getD0, getD1, getD2, isInt_i, Bool.and_true, Bool.true_and, Bool.and_self, cond_true, cond_false, len_1, len_2, len_3, isOne1, isTup2, isTup3, isAgg2, isAgg3, comp0, comp1, comp2, cell1, cella0, cella1, cella2, isD_d, dd_d, isBool_b, bit_b, num_i, isStr_s, bytes_s, isList_2, isList_3, rows_l, nb_0, Bool.not_not]
                · rw [decide_eq_false (show ¬ Int.ofNat vs.length ≤ 32 by simp only [Int.ofNat_eq_natCast]; omega), cond_false, decide_eq_false hc, Bool.false_and]
              · rw [decide_eq_false m0, cond_false, Bool.false_and, Bool.false_and]
            · rw [if_neg h4] at hd
              cases hd
    · rw [decide_eq_false h0, Bool.not_false, cond_true, Bool.false_and]
end
section
set_option linter.unusedVariables false
set_option linter.unusedSimpArgs false
open Go Go.RowKit
theorem C51n (k : Nat) (κ m : Int) (vs : List W) (hκ : κ = 1 ∨ κ = 2) : Ak (k + 1) 51 [V.agg [X.d (D.int IntKind.i64 κ), X.nilL 2], W.v (.mk κ m vs)] [] = some (R (bV (hasT 1 (.mk κ []) (.mk κ m vs)))) := by
  refine (call51_v1 k κ κ m (W.rows vs)).trans ?_
  rw [e51_v1_eq, int_neb, decide_eq_true rfl, Bool.not_true, cond_false, q51_0_v1_eq, W.rows_len, emptyB, hasT, decide_eq_true rfl, Bool.true_and]
  simp only [int_eqb]
  by_cases h1 : κ = 1
  · rw [decide_eq_true h1, cond_true, if_pos h1]
    by_cases m0 : m = 0
    · rw [decide_eq_true m0, cond_true]; simp
    · rw [decide_eq_false m0, cond_false]
      by_cases m1 : m = 1
      · rw [decide_eq_true m1, cond_true]; simp
      · rw [decide_eq_false m1, cond_false]; simp
  · have h2 : κ = 2 := hκ.resolve_left h1
    rw [decide_eq_false h1, cond_false, if_neg h1, decide_eq_true h2, cond_true, if_pos h2]
    by_cases m0 : m ≥ -2147483648
    · rw [decide_eq_true m0, cond_true]
      by_cases m1 : m ≤ 2147483647
      · rw [decide_eq_true m1, cond_true]; simp
      · rw [decide_eq_false m1, cond_false]; simp
    · rw [decide_eq_false m0, cond_false]; simp
theorem C52n (k : Nat) (κ m : Int) (vs : List W) (hκ : κ = 1 ∨ κ = 2) : Ak (k + 1) 52 [V.agg [X.d (D.int IntKind.i64 κ), X.nilL 2], W.v (.mk κ m vs)] [] = some (R (bV (hasT 1 (.mk κ []) (.mk κ m vs)))) := by
  refine (call52_v1 k κ κ m (W.rows vs)).trans ?_
  rw [e52_v1_eq, int_neb, decide_eq_true rfl, Bool.not_true, cond_false, q52_0_v1_eq, W.rows_len, emptyB, hasT, decide_eq_true rfl, Bool.true_and]
  simp only [int_eqb]
  by_cases h1 : κ = 1
  · rw [decide_eq_true h1, cond_true, if_pos h1]
    cases vs.isEmpty with
    | false => rw [cond_false, Bool.and_false]
    | true =>
      rw [cond_true, Bool.and_true]
      by_cases m0 : m = 0
      · rw [decide_eq_true m0, cond_true]; simp
      · rw [decide_eq_false m0, cond_false]; simp
  · have h2 : κ = 2 := hκ.resolve_left h1
    rw [decide_eq_false h1, cond_false, if_neg h1, decide_eq_true h2, cond_true, if_pos h2]
    cases vs.isEmpty with
    | false => rw [cond_false, Bool.and_false]
    | true =>
      rw [cond_true, Bool.and_true]
      by_cases m0 : m ≥ -2147483648
      · rw [decide_eq_true m0, cond_true]; simp
      · rw [decide_eq_false m0, cond_false]; simp
theorem L52a (k : Nat) (f : T → W → Bool) (l : List T) (s : List W) (n2 : Nat) (z1 z2 : Int) (hll : s.length = l.length) (hl : s.length ≤ 1000000) (hΓ : ∀ a ∈ l, ∀ b ∈ s, Ak k 52 [a.v, b.v] [] = some (R (bV (f a b)))) :
    ∀ (m i : Nat), s.length - i < m → l52_0 m (Ak k) n2 (Int.ofNat s.length) (Int.ofNat i) 3 (T.rows l) z1 z2 (W.rows s) = some (R (bV (all2 f (l.drop i) (s.drop i)))) := by
  intro m
  induction m with
  | zero => intro i h; omega
  | succ m ih =>
    intro i h
    rw [l52_0_eq]
    by_cases hi : i < s.length
    · have := hΓ (l.getD i default) (getD_mem l i (by omega)) (s.getD i default) (getD_mem s i hi)
      unfold T.v W.v at this
      rw [lt_yes i _ hi, cond_true, q52_2_eq, T.rows_len, decide_eq_true (show (0 : Int) < Int.ofNat l.length by simp only [Int.ofNat_eq_natCast]; omega), Bool.and_self, cond_true]
      show (bif true then _ else _) = _
      rw [cond_true, in_range i _ (by omega), cond_true, q52_3_eq, W.rows_len, in_range i _ hi, cond_true, tn, T.rows_at l i (by omega), W.rows_at s i hi]
      simp only [getD0, getD1, getD2]
      rw [this, g_oB, all2_drop f l s i (by omega) hi]
      cases f (l.getD i default) (s.getD i default) with
      | false => rfl
      | true => rw [Bool.true_and, ← ih (i + 1) (by omega), Bool.not_true, cond_false, q52_4_eq, wrap_up i (by omega)]
    · rw [lt_no i _ (by omega), cond_false, q52_5_eq, List.drop_eq_nil_of_le (by omega), List.drop_eq_nil_of_le (by omega)]
      rfl
theorem L52b (k : Nat) (f : W → Bool) (l : List T) (s : List W) (n2 : Nat) (κ z1 z2 : Int) (hκ : κ ≠ 3) (h0 : 0 < l.length) (hl : s.length ≤ 1000000) (hΓ : ∀ b ∈ s, Ak k 52 [(l.getD 0 default).v, b.v] [] = some (R (bV (f b)))) :
    ∀ (m i : Nat), s.length - i < m → l52_0 m (Ak k) n2 (Int.ofNat s.length) (Int.ofNat i) κ (T.rows l) z1 z2 (W.rows s) = some (R (bV ((s.drop i).all f))) := by
  intro m
  induction m with
  | zero => intro i h; omega
  | succ m ih =>
    intro i h
    rw [l52_0_eq]
    by_cases hi : i < s.length
    · have := hΓ (s.getD i default) (getD_mem s i hi)
      unfold T.v W.v at this
      rw [lt_yes i _ hi, cond_true, q52_2_eq, T.rows_len, decide_eq_true (show (0 : Int) < Int.ofNat l.length by simp only [Int.ofNat_eq_natCast]; omega), Bool.and_self, cond_true, int_eqb, decide_eq_false hκ, cond_false, q52_3_eq, W.rows_len, in_range i _ hi, cond_true, tn,
        T.rows_at l 0 h0, W.rows_at s i hi]
      simp only [getD0, getD1, getD2]
      rw [this, g_oB, all_drop f s i hi]
      cases f (s.getD i default) with
      | false => rfl
      | true => rw [Bool.true_and, ← ih (i + 1) (by omega), Bool.not_true, cond_false, q52_4_eq, wrap_up i (by omega)]
    · rw [lt_no i _ (by omega), cond_false, q52_5_eq, drop_all f s i (by omega)]
theorem C52 : ∀ (n k : Nat) (t : T) (v : W), deepT n t = true → v.size ≤ 1000000 → n + 60 ≤ k → n ≤ 1000 → Ak k 52 [t.v, v.v] [] = some (R (bV (hasT n t v)))
  | 0, _, _, _, h, _, _, _ => by cases h
  | n + 1, 0, _, _, _, _, h, _ => by omega
  | n + 1, k + 1, .mk κ l, .mk κ' m vs, hd, hv, hk, hn => by
    refine (call52 k κ (T.rows l) κ' m (W.rows vs)).trans ?_
    have hlen := W.sizes_len vs
    have hvs : (W.mk κ' m vs).size = 1 + W.sizes vs := by rw [W.size]
    rw [e52_eq, int_neb, hasT]
    by_cases h0 : κ' = κ
    · rw [decide_eq_true h0, Bool.not_true, cond_false, Bool.true_and, q52_0_eq, W.rows_len, T.rows_len, emptyB]
      simp only [int_eqb, int_neb]
      by_cases h1 : κ = 1
      · rw [decide_eq_true h1, cond_true, if_pos h1]
        cases vs.isEmpty with
        | false => rw [cond_false, Bool.and_false]
        | true =>
          rw [cond_true, Bool.and_true]
          by_cases m0 : m = 0
          · rw [decide_eq_true m0, cond_true]; simp
          · rw [decide_eq_false m0, cond_false]; simp
      · rw [decide_eq_false h1, cond_false, if_neg h1]
        by_cases h2 : κ = 2
        · rw [decide_eq_true h2, cond_true, if_pos h2]
          cases vs.isEmpty with
          | false => rw [cond_false, Bool.and_false]
          | true =>
            rw [cond_true, Bool.and_true]
            by_cases m0 : m ≥ -2147483648
            · rw [decide_eq_true m0, cond_true]; simp
            · rw [decide_eq_false m0, cond_false]; simp
        · rw [decide_eq_false h2, cond_false, if_neg h2]
          unfold deepT at hd
          rw [if_neg (show ¬ (κ = 1 ∨ κ = 2) by omega)] at hd
          by_cases h3 : κ = 3
          · subst h3
            rw [if_pos rfl] at hd ⊢
            simp only [Bool.and_eq_true, decide_eq_true_eq, List.all_eq_true] at hd
            rw [decide_eq_true rfl, cond_true]
            by_cases m0 : m = 0
            · rw [decide_eq_true m0, Bool.not_true, cond_false, Bool.true_and]
              by_cases hl : vs.length = l.length
              · rw [decide_eq_true (show Int.ofNat vs.length = Int.ofNat l.length by rw [hl]), Bool.not_true, cond_false, q52_1_eq]
                exact L52a k (hasT n) l vs k κ' m hl (by omega) (fun a ha b hb => C52 n k a b (hd.2 a ha) (by have := W.mem_size hb; omega) (by omega) (by omega)) k 0 (by omega)
              · rw [decide_eq_false (show ¬ Int.ofNat vs.length = Int.ofNat l.length by simp only [Int.ofNat_eq_natCast]; omega), Bool.not_false, cond_true, all2_len _ _ _ (fun q => hl q.symm)]
            · rw [decide_eq_false m0, Bool.not_false, cond_true, Bool.false_and]
          · rw [decide_eq_false h3, cond_false, if_neg h3]
            rw [if_neg h3] at hd
            by_cases h4 : κ = 4
            · rw [if_pos h4] at hd
              simp only [Bool.and_eq_true, decide_eq_true_eq, List.all_eq_true] at hd
              by_cases m0 : m = 0
              · rw [decide_eq_true m0, Bool.not_true, cond_false, Bool.true_and]
                by_cases hc : vs.length ≤ 32
                · have hl0 : l.getD 0 default ∈ l := getD_mem l 0 (by omega)
                  rw [decide_eq_false (show ¬ Int.ofNat vs.length > 32 by simp only [Int.ofNat_eq_natCast]; omega), cond_false, q52_1_eq, decide_eq_true hc, Bool.true_and]
                  exact L52b k (hasT n (l.getD 0 (.mk 0 []))) l vs k κ κ' m h3 (by omega) (by omega) (fun b hb => C52 n k (l.getD 0 default) b (hd.2 _ hl0) (by have := W.mem_size hb; omega) (by omega) (by omega)) k 0 (by omega)
                · rw [decide_eq_true (show Int.ofNat vs.length > 32 by simp only [Int.ofNat_eq_natCast]; omega), cond_true, decide_eq_false hc, Bool.false_and]
              · rw [decide_eq_false m0, Bool.not_false, cond_true, Bool.false_and, Bool.false_and]
            · rw [if_neg h4] at hd
              cases hd
    · rw [decide_eq_false h0, Bool.not_false, cond_true, Bool.false_and]
def hasP (t : T) (v : W) : Bool := deepT 40 t && hasT 40 t v && decide (v.size ≤ 1000)
theorem cap_le (n : Nat) : decide (capW n ≤ 1000) = decide (n ≤ 1000) := by
  rw [decide_eq_decide]
  unfold capW
  split <;> omega
theorem C24 (k : Nat) (t : T) (v : W) (hv : v.size ≤ 100000) (hk : 200000 ≤ k) : Ak k 24 [t.v, v.v] [] = some (R (bV (hasP t v))) := by
  obtain ⟨k, rfl⟩ : ∃ k', k = k' + 1 := ⟨k - 1, by omega⟩
  refine (call24 k t.k (T.rows t.l) v.k v.n (W.rows v.l)).trans ?_
  have h16 := C16 k (by omega) t
  have h28 := C28 k v (by omega) (by omega)
  unfold T.v at h16
  unfold W.v at h28
  unfold hasP
  rw [e24_eq, h16, g_oB]
  cases hd : deepT 40 t with
  | false => rfl
  | true =>
    have h51 := C51 40 k t v hd (by omega) (by omega) (by omega)
    unfold T.v W.v at h51
    rw [cond_true, h51, g_oB]
    cases hh : hasT 40 t v with
    | false => rfl
    | true => rw [cond_true, h28, g_oI, cap_le]; rfl
theorem C25 (k : Nat) (t : T) (v : W) (hv : v.size ≤ 100000) (hk : 200000 ≤ k) : Ak k 25 [t.v, v.v] [] = some (R (bV (hasP t v))) := by
  obtain ⟨k, rfl⟩ : ∃ k', k = k' + 1 := ⟨k - 1, by omega⟩
  refine (call25 k t.k (T.rows t.l) v.k v.n (W.rows v.l)).trans ?_
  have h17 := C17 k (by omega) t
  have h29 := C29 k v (by omega) (by omega)
  unfold T.v at h17
  unfold W.v at h29
  unfold hasP
  rw [e25_eq, h17, g_oB]
  cases hd : deepT 40 t with
  | false => rfl
  | true =>
    have h52 := C52 40 k t v hd (by omega) (by omega) (by omega)
    unfold T.v W.v at h52
    rw [cond_true, h52, g_oB]
    cases hh : hasT 40 t v with
    | false => rfl
    | true => rw [cond_true, h29, g_oI, cap_le]; rfl
end
end Go.Proofs.YtkpdofiflhjahaaDoor.Ps
