/- Values: what a type has, by the reference; Has. -/
import Derived.Test.YtkpdofiflhjahaaDoorF7
namespace Go.Proofs.YtkpdofiflhjahaaDoor.Ps
set_option linter.unusedVariables false
set_option linter.unusedSimpArgs false
open Go Go.RowKit
theorem C51n (k : Nat) (κ m : Int) (vs : List W) (hκ : κ = 1 ∨ κ = 2) : Ak (k + 1) 51 [V.agg [X.d (D.int IntKind.i64 κ), X.nilL 2], W.v (.mk κ m vs)] [] = some (R (bV (hasT 1 (.mk κ []) (.mk κ m vs)))) := by
  refine (call51_v1 k κ κ m (W.rows vs)).trans ?_
  rw [e51_v1_eq, int_neb, decide_eq_true rfl, Bool.not_true, cond_false, q51_0_v1_eq, W.rows_len, emptyB, hasT, decide_eq_true rfl, Bool.true_and]
  simp only [int_eqb]
  by_cases h1 : κ = 1
  · rw [decide_eq_true h1, cond_true, if_pos h1]
    by_cases m0 : m = 0
    · rw [decide_eq_true m0, cond_true]; simp
    · rw [decide_eq_false m0, cond_false]
      by_cases m1 : m = 1
      · rw [decide_eq_true m1, cond_true]; simp
      · rw [decide_eq_false m1, cond_false]; simp
  · have h2 : κ = 2 := hκ.resolve_left h1
    rw [decide_eq_false h1, cond_false, if_neg h1, decide_eq_true h2, cond_true, if_pos h2]
    by_cases m0 : m ≥ -2147483648
    · rw [decide_eq_true m0, cond_true]
      by_cases m1 : m ≤ 2147483647
      · rw [decide_eq_true m1, cond_true]; simp
      · rw [decide_eq_false m1, cond_false]; simp
    · rw [decide_eq_false m0, cond_false]; simp
theorem C52n (k : Nat) (κ m : Int) (vs : List W) (hκ : κ = 1 ∨ κ = 2) : Ak (k + 1) 52 [V.agg [X.d (D.int IntKind.i64 κ), X.nilL 2], W.v (.mk κ m vs)] [] = some (R (bV (hasT 1 (.mk κ []) (.mk κ m vs)))) := by
  refine (call52_v1 k κ κ m (W.rows vs)).trans ?_
  rw [e52_v1_eq, int_neb, decide_eq_true rfl, Bool.not_true, cond_false, q52_0_v1_eq, W.rows_len, emptyB, hasT, decide_eq_true rfl, Bool.true_and]
  simp only [int_eqb]
  by_cases h1 : κ = 1
  · rw [decide_eq_true h1, cond_true, if_pos h1]
    cases vs.isEmpty with
    | false => rw [cond_false, Bool.and_false]
    | true =>
      rw [cond_true, Bool.and_true]
      by_cases m0 : m = 0
      · rw [decide_eq_true m0, cond_true]; simp
      · rw [decide_eq_false m0, cond_false]; simp
  · have h2 : κ = 2 := hκ.resolve_left h1
    rw [decide_eq_false h1, cond_false, if_neg h1, decide_eq_true h2, cond_true, if_pos h2]
    cases vs.isEmpty with
    | false => rw [cond_false, Bool.and_false]
    | true =>
      rw [cond_true, Bool.and_true]
      by_cases m0 : m ≥ -2147483648
      · rw [decide_eq_true m0, cond_true]; simp
      · rw [decide_eq_false m0, cond_false]; simp
theorem L52a (k : Nat) (f : T → W → Bool) (l : List T) (s : List W) (n2 : Nat) (z1 z2 : Int) (hll : s.length = l.length) (hl : s.length ≤ 1000000) (hΓ : ∀ a ∈ l, ∀ b ∈ s, Ak k 52 [a.v, b.v] [] = some (R (bV (f a b)))) :
    ∀ (m i : Nat), s.length - i < m → l52_0 m (Ak k) n2 (Int.ofNat s.length) (Int.ofNat i) 3 (T.rows l) z1 z2 (W.rows s) = some (R (bV (all2 f (l.drop i) (s.drop i)))) := by
  intro m
  induction m with
  | zero => intro i h; omega
  | succ m ih =>
    intro i h
    rw [l52_0_eq]
    by_cases hi : i < s.length
    · have := hΓ (l.getD i default) (getD_mem l i (by omega)) (s.getD i default) (getD_mem s i hi)
      unfold T.v W.v at this
      rw [lt_yes i _ hi, cond_true, q52_2_eq, T.rows_len, decide_eq_true (show (0 : Int) < Int.ofNat l.length by simp only [Int.ofNat_eq_natCast]; omega), Bool.and_self, cond_true]
      show (bif true then _ else _) = _
      rw [cond_true, in_range i _ (by omega), cond_true, q52_3_eq, W.rows_len, in_range i _ hi, cond_true, tn, T.rows_at l i (by omega), W.rows_at s i hi]
      simp only [getD0, getD1, getD2]
      rw [this, g_oB, all2_drop f l s i (by omega) hi]
      cases f (l.getD i default) (s.getD i default) with
      | false => rfl
      | true => rw [Bool.true_and, ← ih (i + 1) (by omega), Bool.not_true, cond_false, q52_4_eq, wrap_up i (by omega)]
    · rw [lt_no i _ (by omega), cond_false, q52_5_eq, List.drop_eq_nil_of_le (by omega), List.drop_eq_nil_of_le (by omega)]
      rfl
theorem L52b (k : Nat) (f : W → Bool) (l : List T) (s : List W) (n2 : Nat) (κ z1 z2 : Int) (hκ : κ ≠ 3) (h0 : 0 < l.length) (hl : s.length ≤ 1000000) (hΓ : ∀ b ∈ s, Ak k 52 [(l.getD 0 default).v, b.v] [] = some (R (bV (f b)))) :
    ∀ (m i : Nat), s.length - i < m → l52_0 m (Ak k) n2 (Int.ofNat s.length) (Int.ofNat i) κ (T.rows l) z1 z2 (W.rows s) = some (R (bV ((s.drop i).all f))) := by
  intro m
  induction m with
  | zero => intro i h; omega
  | succ m ih =>
    intro i h
    rw [l52_0_eq]
    by_cases hi : i < s.length
    · have := hΓ (s.getD i default) (getD_mem s i hi)
      unfold T.v W.v at this
      rw [lt_yes i _ hi, cond_true, q52_2_eq, T.rows_len, decide_eq_true (show (0 : Int) < Int.ofNat l.length by simp only [Int.ofNat_eq_natCast]; omega), Bool.and_self, cond_true, int_eqb, decide_eq_false hκ, cond_false, q52_3_eq, W.rows_len, in_range i _ hi, cond_true, tn,
        T.rows_at l 0 h0, W.rows_at s i hi]
      simp only [getD0, getD1, getD2]
      rw [this, g_oB, all_drop f s i hi]
      cases f (s.getD i default) with
      | false => rfl
      | true => rw [Bool.true_and, ← ih (i + 1) (by omega), Bool.not_true, cond_false, q52_4_eq, wrap_up i (by omega)]
    · rw [lt_no i _ (by omega), cond_false, q52_5_eq, drop_all f s i (by omega)]
theorem C52 : ∀ (n k : Nat) (t : T) (v : W), deepT n t = true → v.size ≤ 1000000 → n + 60 ≤ k → n ≤ 1000 → Ak k 52 [t.v, v.v] [] = some (R (bV (hasT n t v)))
  | 0, _, _, _, h, _, _, _ => by cases h
  | n + 1, 0, _, _, _, _, h, _ => by omega
  | n + 1, k + 1, .mk κ l, .mk κ' m vs, hd, hv, hk, hn => by
    refine (call52 k κ (T.rows l) κ' m (W.rows vs)).trans ?_
    have hlen := W.sizes_len vs
    have hvs : (W.mk κ' m vs).size = 1 + W.sizes vs := by rw [W.size]
    rw [e52_eq, int_neb, hasT]
    by_cases h0 : κ' = κ
    · rw [decide_eq_true h0, Bool.not_true, cond_false, Bool.true_and, q52_0_eq, W.rows_len, T.rows_len, emptyB]
      simp only [int_eqb, int_neb]
      by_cases h1 : κ = 1
      · rw [decide_eq_true h1, cond_true, if_pos h1]
        cases vs.isEmpty with
        | false => rw [cond_false, Bool.and_false]
        | true =>
          rw [cond_true, Bool.and_true]
          by_cases m0 : m = 0
          · rw [decide_eq_true m0, cond_true]; simp
          · rw [decide_eq_false m0, cond_false]; simp
      · rw [decide_eq_false h1, cond_false, if_neg h1]
        by_cases h2 : κ = 2
        · rw [decide_eq_true h2, cond_true, if_pos h2]
          cases vs.isEmpty with
          | false => rw [cond_false, Bool.and_false]
          | true =>
            rw [cond_true, Bool.and_true]
            by_cases m0 : m ≥ -2147483648
            · rw [decide_eq_true m0, cond_true]; simp
            · rw [decide_eq_false m0, cond_false]; simp
        · rw [decide_eq_false h2, cond_false, if_neg h2]
          unfold deepT at hd
          rw [if_neg (show ¬ (κ = 1 ∨ κ = 2) by omega)] at hd
          by_cases h3 : κ = 3
          · subst h3
            rw [if_pos rfl] at hd ⊢
            simp only [Bool.and_eq_true, decide_eq_true_eq, List.all_eq_true] at hd
            rw [decide_eq_true rfl, cond_true]
            by_cases m0 : m = 0
            · rw [decide_eq_true m0, Bool.not_true, cond_false, Bool.true_and]
              by_cases hl : vs.length = l.length
              · rw [decide_eq_true (show Int.ofNat vs.length = Int.ofNat l.length by rw [hl]), Bool.not_true, cond_false, q52_1_eq]
                exact L52a k (hasT n) l vs k κ' m hl (by omega) (fun a ha b hb => C52 n k a b (hd.2 a ha) (by have := W.mem_size hb; omega) (by omega) (by omega)) k 0 (by omega)
              · rw [decide_eq_false (show ¬ Int.ofNat vs.length = Int.ofNat l.length by simp only [Int.ofNat_eq_natCast]; omega), Bool.not_false, cond_true, all2_len _ _ _ (fun q => hl q.symm)]
            · rw [decide_eq_false m0, Bool.not_false, cond_true, Bool.false_and]
          · rw [decide_eq_false h3, cond_false, if_neg h3]
            rw [if_neg h3] at hd
            by_cases h4 : κ = 4
            · rw [if_pos h4] at hd
              simp only [Bool.and_eq_true, decide_eq_true_eq, List.all_eq_true] at hd
              by_cases m0 : m = 0
              · rw [decide_eq_true m0, Bool.not_true, cond_false, Bool.true_and]
                by_cases hc : vs.length ≤ 32
                · have hl0 : l.getD 0 default ∈ l := getD_mem l 0 (by omega)
                  rw [decide_eq_false (show ¬ Int.ofNat vs.length > 32 by simp only [Int.ofNat_eq_natCast]; omega), cond_false, q52_1_eq, decide_eq_true hc, Bool.true_and]
                  exact L52b k (hasT n (l.getD 0 (.mk 0 []))) l vs k κ κ' m h3 (by omega) (by omega) (fun b hb => C52 n k (l.getD 0 default) b (hd.2 _ hl0) (by have := W.mem_size hb; omega) (by omega) (by omega)) k 0 (by omega)
                · rw [decide_eq_true (show Int.ofNat vs.length > 32 by simp only [Int.ofNat_eq_natCast]; omega), cond_true, decide_eq_false hc, Bool.false_and]
              · rw [decide_eq_false m0, Bool.not_false, cond_true, Bool.false_and, Bool.false_and]
            · rw [if_neg h4] at hd
              cases hd
    · rw [decide_eq_false h0, Bool.not_false, cond_true, Bool.false_and]
def hasP (t : T) (v : W) : Bool := deepT 40 t && hasT 40 t v && decide (v.size ≤ 1000)
theorem cap_le (n : Nat) : decide (capW n ≤ 1000) = decide (n ≤ 1000) := by
  rw [decide_eq_decide]
  unfold capW
  split <;> omega
theorem C24 (k : Nat) (t : T) (v : W) (hv : v.size ≤ 100000) (hk : 200000 ≤ k) : Ak k 24 [t.v, v.v] [] = some (R (bV (hasP t v))) := by
  obtain ⟨k, rfl⟩ : ∃ k', k = k' + 1 := ⟨k - 1, by omega⟩
  refine (call24 k t.k (T.rows t.l) v.k v.n (W.rows v.l)).trans ?_
  have h16 := C16 k (by omega) t
  have h28 := C28 k v (by omega) (by omega)
  unfold T.v at h16
  unfold W.v at h28
  unfold hasP
  rw [e24_eq, h16, g_oB]
  cases hd : deepT 40 t with
  | false => rfl
  | true =>
    have h51 := C51 40 k t v hd (by omega) (by omega) (by omega)
    unfold T.v W.v at h51
    rw [cond_true, h51, g_oB]
    cases hh : hasT 40 t v with
    | false => rfl
    | true => rw [cond_true, h28, g_oI, cap_le]; rfl
theorem C25 (k : Nat) (t : T) (v : W) (hv : v.size ≤ 100000) (hk : 200000 ≤ k) : Ak k 25 [t.v, v.v] [] = some (R (bV (hasP t v))) := by
  obtain ⟨k, rfl⟩ : ∃ k', k = k' + 1 := ⟨k - 1, by omega⟩
  refine (call25 k t.k (T.rows t.l) v.k v.n (W.rows v.l)).trans ?_
  have h17 := C17 k (by omega) t
  have h29 := C29 k v (by omega) (by omega)
  unfold T.v at h17
  unfold W.v at h29
  unfold hasP
  rw [e25_eq, h17, g_oB]
  cases hd : deepT 40 t with
  | false => rfl
  | true =>
    have h52 := C52 40 k t v hd (by omega) (by omega) (by omega)
    unfold T.v W.v at h52
    rw [cond_true, h52, g_oB]
    cases hh : hasT 40 t v with
    | false => rfl
    | true => rw [cond_true, h29, g_oI, cap_le]; rfl
end Go.Proofs.YtkpdofiflhjahaaDoor.Ps
