/- Values: Right by the reference; the law on Has, Right, Size. -/
import Derived.Test.YtkpdofiflhjahaaDoorF11
import Derived.Test.YtkpdofiflhjahaaDoorPvL4
import Derived.Test.YtkpdofiflhjahaaDoorVk
namespace Go.Proofs.YtkpdofiflhjahaaDoor.Ps
set_option linter.unusedVariables false
set_option linter.unusedSimpArgs false
set_option maxRecDepth 1000000
open Go Go.RowKit
theorem L76 (k : Nat) (κ z : Int) (l s : List T) (n2 : Nat) (hll : l.length = s.length) (hl : l.length ≤ 1000000) (hΓ : ∀ a ∈ l, ∀ b : T, Ak k 76 [a.v, b.v] [] = some (R (pairV ((joinT a b).getD (.mk 0 [])) (joinT a b).isSome))) :
    ∀ (m i : Nat) (acc : List T), acc.length ≤ i → l.length - i < m → l76_0_v3 m (Ak k) n2 (Int.ofNat i) κ (T.rows l) z (T.rows s) 0 κ (T.rows acc) =
      some (R (pairV (((joinTs (l.drop i) (s.drop i)).map fun r => T.mk κ (acc ++ r)).getD (.mk 0 [])) (joinTs (l.drop i) (s.drop i)).isSome)) := by
  intro m
  induction m with
  | zero => intro i acc _ h; omega
  | succ m ih =>
    intro i acc ha h
    rw [l76_0_v3_eq, T.rows_len]
    by_cases hi : i < l.length
    · have := hΓ (l.getD i default) (getD_mem l i hi) (s.getD i default)
      unfold T.v pairV at this
      rw [lt_yes i _ hi, cond_true, q76_3_v3_eq, T.rows_len, T.rows_len, in_range i _ hi, cond_true, in_range i _ (by omega), cond_true, tn, T.rows_at l i hi, T.rows_at s i (by omega)]
      simp only [getD0, getD1]
      rw [this, T.v, g_t2a2IL2oB, joinTs_drop l s i hi (by omega)]
      cases hj : joinT (l.getD i default) (s.getD i default) with
      | none => rfl
      | some x =>
        rw [Option.isSome_some, Bool.not_true, cond_false, q76_4_v3_eq, T.rows_len, ble_t (by simp only [List.length_cons, List.length_nil]; omega)]
        simp only [Bool.and_self, cond_true, Option.getD_some]
        rw [q76_5_v1_eq, wrap_up i (by omega), ← T.rows_one, ← T.rows_app, ih (i + 1) (acc ++ [x]) (by rw [List.length_append, List.length_cons, List.length_nil]; omega) (by omega)]
        cases joinTs (l.drop (i + 1)) (s.drop (i + 1)) with
        | none => rfl
        | some r => simp
    · rw [lt_no i _ (by omega), cond_false, q76_6_v1_eq, List.drop_eq_nil_of_le (by omega), joinTs]
      simp only [Option.map_some, Option.getD_some, List.append_nil]
      rfl
theorem C76 : ∀ (k : Nat) (a b : T), a.size ≤ 1000000 → a.size + 3 ≤ k → Ak k 76 [a.v, b.v] [] = some (R (pairV ((joinT a b).getD (.mk 0 [])) (joinT a b).isSome))
  | 0, a, b, _, h => by omega
  | k + 1, .mk κ l, .mk κ' s, hs, hk => by
    refine (call76_v1 k κ (T.rows l) κ' (T.rows s)).trans ?_
    have hsz : (T.mk κ l).size = 1 + T.sizes l := by rw [T.size]
    have hlen := T.sizes_len l
    rw [e76_v1_eq, joinT, int_eqb]
    by_cases h0 : κ = 0
    · rw [decide_eq_true h0, cond_true, if_pos h0]; rfl
    · rw [decide_eq_false h0, cond_false, if_neg h0, q76_0_v1_eq, int_eqb]
      by_cases h1 : κ' = 0
      · rw [decide_eq_true h1, cond_true, if_pos h1]; rfl
      · rw [decide_eq_false h1, cond_false, if_neg h1, q76_1_v1_eq, int_neb, T.rows_len, T.rows_len, ofNat_neb]
        by_cases h2 : κ = κ'
        · rw [decide_eq_true h2, Bool.not_true, cond_false]
          by_cases h3 : l.length = s.length
          · rw [decide_eq_true h3, Bool.not_true, cond_false, if_neg (show ¬ (κ ≠ κ' ∨ l.length ≠ s.length) from fun q => q.elim (fun q => q h2) (fun q => q h3)), q76_2_v1_eq]
            have hΓ : ∀ a ∈ l, ∀ b : T, Ak k 76 [a.v, b.v] [] = some (R (pairV ((joinT a b).getD (.mk 0 [])) (joinT a b).isSome)) := fun x hx y => C76 k x y (by have := T.mem_size hx; omega) (by have := T.mem_size hx; omega)
            obtain ⟨k, rfl⟩ : ∃ k', k = k' + 1 := ⟨k - 1, by omega⟩
            rw [l76_0_v2_eq, T.rows_len]
            by_cases hi : 0 < l.length
            · have := hΓ (l.getD 0 default) (getD_mem l 0 hi) (s.getD 0 default)
              unfold T.v pairV at this
              rw [show decide ((0 : Int) < Int.ofNat l.length) = true from lt_yes 0 _ hi, cond_true, q76_3_v2_eq, T.rows_len, T.rows_len, show (decide ((0 : Int) ≤ 0) && decide ((0 : Int) < Int.ofNat l.length)) = true from in_range 0 _ hi, cond_true,
                show (decide ((0 : Int) ≤ 0) && decide ((0 : Int) < Int.ofNat s.length)) = true from in_range 0 _ (by omega), cond_true, show Int.toNat 0 = 0 from rfl, T.rows_at l 0 hi, T.rows_at s 0 (by omega)]
              simp only [getD0, getD1]
              have hd := joinTs_drop l s 0 hi (by omega)
              rw [List.drop_zero, List.drop_zero] at hd
              rw [this, T.v, g_t2a2IL2oB, hd]
              cases hj : joinT (l.getD 0 default) (s.getD 0 default) with
              | none => rfl
              | some x =>
                rw [Option.isSome_some, Bool.not_true, cond_false, q76_4_v2_eq, q76_5_v1_eq, show IntKind.wrap .i64 (0 + 1) = Int.ofNat 1 from wrap_up 0 (by omega)]
                simp only [Option.getD_some]
                rw [← T.rows_one]
                have := L76 (k + 1) κ κ' l s (k + 1) h3 (by omega) hΓ k 1 [x] (by simp) (by omega)
                refine Eq.trans this ?_
                cases joinTs (l.drop 1) (s.drop 1) with
                | none => rfl
                | some r => simp
            · have hl0 : l = [] := List.eq_nil_of_length_eq_zero (by omega)
              subst hl0
              rw [show decide ((0 : Int) < Int.ofNat ([] : List T).length) = false from lt_no 0 _ (by simp), cond_false, q76_6_eq, joinTs]
              rfl
          · rw [decide_eq_false h3, Bool.not_false, cond_true, if_pos (show κ ≠ κ' ∨ l.length ≠ s.length from .inr h3)]; rfl
        · rw [decide_eq_false h2, Bool.not_false, cond_true, if_pos (show κ ≠ κ' ∨ l.length ≠ s.length from .inl h2)]; rfl
theorem C76n (k : Nat) (b : T) : Ak (k + 1) 76 [V.agg [X.d (D.int IntKind.i64 0), X.nilL 2], b.v] [] = some (R (pairV b true)) := by
  refine (call76 k 0 b.k (T.rows b.l)).trans ?_
  rw [e76_eq]
  rfl
/-! ### open -/
theorem openW_size (n : Nat) (v : W) (t : T) (h : openW n v = some t) : t.size ≤ 2 * v.size := by
  rw [openW_eq, Option.filter_eq_some_iff] at h
  exact shapeW_size n v t h.1
/-- The deep that a step has at n. -/
def dp (n : Nat) : Int := 41 - (n : Int)
theorem L55a (k n : Nat) (l : List W) (n2 : Nat) (κ' m' : Int) (hn : n ≤ 40) (hl : l.length ≤ 1000000) (hΓ : ∀ a ∈ l, Res53 (openW n a) (Ak k 55 [a.v, iV (dp n)] [])) :
    ∀ (m i : Nat) (acc : List T), acc.length ≤ i → l.length - i < m → Res53 ((shapes (openW n) (l.drop i)).bind fun r => if m' = 0 ∧ 2 ≤ l.length ∧ l.length ≤ 4 then some (T.mk 3 (acc ++ r)) else none) (l55_0_v1 m (Ak k) n2 (dp (n + 1)) (Int.ofNat i) κ' m' (W.rows l) 0 3 (T.rows acc)) := by
  intro m
  induction m with
  | zero => intro i acc _ h; omega
  | succ m ih =>
    intro i acc ha h
    rw [l55_0_v1_eq, W.rows_len]
    by_cases hi : i < l.length
    · obtain ⟨t', ho, he⟩ := hΓ (l.getD i default) (getD_mem l i hi)
      unfold W.v pairV at ho
      rw [lt_yes i _ hi, cond_true, q55_2_v1_eq, W.rows_len, in_range i _ hi, cond_true, tn, W.rows_at l i hi, wrap_in _ (by unfold dp; omega) (by unfold dp; omega), show dp (n + 1) + 1 = dp n by unfold dp; omega]
      simp only [getD0, getD1, getD2]
      rw [ho, T.v, g_t2a2IL2oB, shapes_drop _ l i hi]
      cases hj : openW n (l.getD i default) with
      | none => exact Res53.fail (t' := .mk 0 [])
      | some x =>
        obtain rfl := he x hj
        rw [Option.isSome_some, Bool.not_true, cond_false, q55_3_v1_eq, T.rows_len, ble_t (by simp only [List.length_cons, List.length_nil]; omega)]
        simp only [Bool.and_self, cond_true]
        rw [q55_4_eq, wrap_up i (by omega), ← T.rows_one, ← T.rows_app]
        have := ih (i + 1) (acc ++ [t']) (by rw [List.length_append, List.length_cons, List.length_nil]; omega) (by omega)
        cases hs : shapes (openW n) (l.drop (i + 1)) with
        | none => rw [hs] at this; exact this
        | some r =>
          rw [hs] at this
          simp only [Option.bind_some, Option.map_some, List.append_assoc, List.singleton_append] at this ⊢
          exact this
    · rw [lt_no i _ (by omega), cond_false, q55_5_v1_eq, W.rows_len, List.drop_eq_nil_of_le (by omega), shapes, int_eqb]
      simp only [Option.bind_some, List.append_nil]
      by_cases hm : m' = 0
      · rw [decide_eq_true hm, cond_true]
        by_cases h2 : 2 ≤ l.length
        · rw [decide_eq_true (show Int.ofNat l.length ≥ 2 by simp only [Int.ofNat_eq_natCast]; omega), cond_true]
          by_cases h4 : l.length ≤ 4
          · rw [decide_eq_true (show Int.ofNat l.length ≤ 4 by simp only [Int.ofNat_eq_natCast]; omega), if_pos ⟨hm, h2, h4⟩]
            exact Res53.ok (t := .mk 3 acc)
          · rw [decide_eq_false (show ¬ Int.ofNat l.length ≤ 4 by simp only [Int.ofNat_eq_natCast]; omega), if_neg (fun q => h4 q.2.2)]
            exact Res53.fail (t' := .mk 3 acc)
        · rw [decide_eq_false (show ¬ Int.ofNat l.length ≥ 2 by simp only [Int.ofNat_eq_natCast]; omega), cond_false, if_neg (fun q => h2 q.2.1)]
          exact Res53.fail (t' := .mk 3 acc)
      · rw [decide_eq_false hm, cond_false, if_neg (fun q => hm q.1)]
        exact Res53.fail (t' := .mk 3 acc)
theorem L55b (k n : Nat) (l : List W) (n2 S : Nat) (m' : Int) (hn : n ≤ 40) (hl : l.length ≤ 32) (hS : S ≤ 1000000) (hk : S + 3 ≤ k) (hΓ : ∀ a ∈ l, Res53 (openW n a) (Ak k 55 [a.v, iV (dp n)] [])) :
    ∀ (m i : Nat) (a : T), a.size + 2 * W.sizes (l.drop i) ≤ S → l.length - i < m → Res53 ((meets (openW n) (l.drop i) a).map fun x => T.mk 4 [x]) (l55_1_v1 m (Ak k) n2 (dp (n + 1)) (Int.ofNat i) 4 m' (W.rows l) 0 a.k (T.rows a.l)) := by
  intro m
  induction m with
  | zero => intro i a _ h; omega
  | succ m ih =>
    intro i a ha h
    rw [l55_1_v1_eq, W.rows_len]
    by_cases hi : i < l.length
    · obtain ⟨t', ho, he⟩ := hΓ (l.getD i default) (getD_mem l i hi)
      unfold W.v pairV at ho
      rw [lt_yes i _ hi, cond_true, q55_7_v1_eq, W.rows_len, in_range i _ hi, cond_true, tn, W.rows_at l i hi, wrap_in _ (by unfold dp; omega) (by unfold dp; omega), show dp (n + 1) + 1 = dp n by unfold dp; omega]
      simp only [getD0, getD1, getD2]
      rw [ho, T.v, g_t2a2IL2oB, meets_drop _ l i a hi]
      rw [drop_getD l i hi, W.sizes] at ha
      cases hj : openW n (l.getD i default) with
      | none =>
        rw [Option.isSome_none, cond_false, q55_8_eq]
        exact Res53.fail (t' := .mk 0 [])
      | some x =>
        obtain rfl := he x hj
        have z1 := openW_size _ _ _ hj
        have h75 := C76 k a t' (by omega) (by omega)
        unfold T.v pairV at h75
        rw [Option.isSome_some, cond_true, h75, T.v, g_t2a2IL2oB, q55_8_eq]
        cases hx : joinT a t' with
        | none =>
          simp only [hx, Option.isSome_none, Bool.not_false, cond_true]
          exact Res53.fail (t' := .mk 0 [])
        | some y =>
          have z2 := joinT_size _ _ _ hx
          rw [Option.isSome_some, Bool.not_true, cond_false, q55_9_eq, wrap_up i (by omega)]
          simp only [hx, Option.getD_some]
          exact ih (i + 1) y (by omega) (by omega)
    · rw [lt_no i _ (by omega), cond_false, q55_10_v1_eq, List.drop_eq_nil_of_le (by omega), meets]
      refine Eq.subst (motive := fun r => Res53 _ (some (Out.mk true (V.tup [V.agg [X.d (D.int IntKind.i64 4), X.d (D.list 2 r)], V.one (X.d (D.bool true))]) D.junk [] 0))) (T.rows_one a) (Res53.ok (t := .mk 4 [a]))
theorem C55 : ∀ (n k : Nat) (v : W), v.size ≤ 100000 → n + 250000 ≤ k → n ≤ 40 → Res53 (openW n v) (Ak k 55 [v.v, iV (dp n)] [])
  | _, 0, _, _, h, _ => by omega
  | 0, k + 1, .mk κ m vs, hv, hk, hn => by
    have hc := call55 k κ m (W.rows vs) (dp 0)
    rw [e55_eq] at hc
    rw [show Ak (k + 1) 55 [(W.mk κ m vs).v, iV (dp 0)] [] = _ from hc, decide_eq_true (show dp 0 > 40 by decide), cond_true]
    exact Res53.fail (t' := .mk 0 [])
  | n + 1, k + 1, .mk κ m vs, hv, hk, hn => by
    have hc := call55 k κ m (W.rows vs) (dp (n + 1))
    rw [e55_eq] at hc
    rw [show Ak (k + 1) 55 [(W.mk κ m vs).v, iV (dp (n + 1))] [] = _ from hc, decide_eq_false (show ¬ dp (n + 1) > 40 by unfold dp; omega), cond_false, q55_0_eq]
    clear hc
    have hsz : (W.mk κ m vs).size = 1 + W.sizes vs := by rw [W.size]
    have hlen := W.sizes_len vs
    obtain ⟨k, rfl⟩ : ∃ k', k = k' + 1 := ⟨k - 1, by omega⟩
    rw [openW]
    have hΓ : ∀ a ∈ vs, Res53 (openW n a) (Ak (k + 1) 55 [a.v, iV (dp n)] []) := fun x hx => C55 n (k + 1) x (by have := W.mem_size hx; omega) (by omega) (by omega)
    have hfail : Res53 none (some (Out.mk true (V.tup [V.agg [X.d (D.int IntKind.i64 0), X.d (D.list 2 [])], V.one (X.d (D.bool false))]) D.junk [] 0)) := Res53.fail (t' := .mk 0 [])
    by_cases h12 : κ = 1 ∨ κ = 2
    · have h51 : Ak (k + 1) 52 [V.agg [X.d (D.int IntKind.i64 κ), X.nilL 2], V.agg [X.d (D.int IntKind.i64 κ), X.d (D.int IntKind.i64 m), X.d (D.list 3 (W.rows vs))]] [] = _ := C52n k κ m vs h12
      have hb : (bif κ == 1 then q55_1 (Ak (k + 1)) (k + 1) (dp (n + 1)) κ (κ == 1) κ m (W.rows vs) 0 else q55_1 (Ak (k + 1)) (k + 1) (dp (n + 1)) κ (κ == 2) κ m (W.rows vs) 0) = q55_1 (Ak (k + 1)) (k + 1) (dp (n + 1)) κ true κ m (W.rows vs) 0 := by
        rcases h12 with rfl | rfl <;> rfl
      rw [hb, q55_1_eq, cond_true, h51, g_oB, if_pos h12]
      cases hasT 1 (.mk κ []) (.mk κ m vs) with
      | true => exact Res53.ok (t := .mk κ [])
      | false => exact Res53.fail (t' := .mk κ [])
    · rw [show (κ == 1) = false by simp; omega, show (κ == 2) = false by simp; omega, cond_false, q55_1_eq, cond_false, if_neg h12, W.rows_len, int_eqb, int_eqb, int_neb, int_eqb]
      by_cases h3 : κ = 3
      · rw [decide_eq_true h3, cond_true, if_pos h3, l55_0_eq, W.rows_len]
        subst h3
        by_cases hi : 0 < vs.length
        · obtain ⟨t', ho, he⟩ := hΓ (vs.getD 0 default) (getD_mem vs 0 hi)
          unfold W.v pairV at ho
          have hd := shapes_drop (openW n) vs 0 hi
          rw [List.drop_zero] at hd
          rw [show decide ((0 : Int) < Int.ofNat vs.length) = true from lt_yes 0 _ hi, cond_true, q55_2_eq, W.rows_len, show (decide ((0 : Int) ≤ 0) && decide ((0 : Int) < Int.ofNat vs.length)) = true from in_range 0 _ hi, cond_true, show Int.toNat 0 = 0 from rfl, W.rows_at vs 0 hi,
            wrap_in _ (by unfold dp; omega) (by unfold dp; omega), show dp (n + 1) + 1 = dp n by unfold dp; omega]
          simp only [getD0, getD1, getD2]
          rw [ho, T.v, g_t2a2IL2oB, hd]
          cases hj : openW n (vs.getD 0 default) with
          | none =>
            simp only [Option.map_none, ite_self]
            exact hfail
          | some x =>
            obtain rfl := he x hj
            rw [Option.isSome_some, Bool.not_true, cond_false, q55_3_eq, q55_4_eq, show IntKind.wrap .i64 (0 + 1) = Int.ofNat 1 from wrap_up 0 (by omega), ← T.rows_one]
            have := L55a (k + 1) n vs (k + 1) 3 m (by omega) (by omega) hΓ k 1 [t'] (by simp) (by omega)
            cases hs : shapes (openW n) (vs.drop 1) with
            | none =>
              rw [hs] at this
              simp only [hs, Option.map_none, ite_self]
              exact this
            | some r =>
              rw [hs] at this
              simp only [hs, Option.map_some]
              exact this
        · have hl0 : vs = [] := List.eq_nil_of_length_eq_zero (by omega)
          subst hl0
          rw [show decide ((0 : Int) < Int.ofNat ([] : List W).length) = false from lt_no 0 _ (by simp), cond_false, q55_5_eq, if_neg (fun q => by have := q.2.1; simp at this)]
          cases hm : (m == 0) with
          | true => exact Res53.fail (t' := .mk 3 [])
          | false => exact Res53.fail (t' := .mk 3 [])
      · rw [decide_eq_false h3, cond_false, if_neg h3]
        by_cases h4 : κ = 4
        · rw [decide_eq_true h4, cond_true, if_pos h4]
          by_cases hm : m = 0
          · rw [decide_eq_true hm, Bool.not_true, cond_false]
            by_cases hl : vs.length ≤ 32
            · rw [decide_eq_false (show ¬ Int.ofNat vs.length > 32 by simp only [Int.ofNat_eq_natCast]; omega), cond_false]
              by_cases hn0 : n = 0
              · rw [decide_eq_true (show dp (n + 1) = 40 by unfold dp; omega), cond_true, if_neg (fun q => q.2.2 hn0)]
                exact hfail
              · rw [decide_eq_false (show ¬ dp (n + 1) = 40 by unfold dp; omega), cond_false, if_pos ⟨hm, hl, hn0⟩, q55_6_eq, l55_1_eq, W.rows_len]
                subst h4
                by_cases hi : 0 < vs.length
                · obtain ⟨t', ho, he⟩ := hΓ (vs.getD 0 default) (getD_mem vs 0 hi)
                  unfold W.v pairV at ho
                  have hd := meets_drop (openW n) vs 0 (.mk 0 []) hi
                  rw [List.drop_zero] at hd
                  rw [show decide ((0 : Int) < Int.ofNat vs.length) = true from lt_yes 0 _ hi, cond_true, q55_7_eq, W.rows_len, show (decide ((0 : Int) ≤ 0) && decide ((0 : Int) < Int.ofNat vs.length)) = true from in_range 0 _ hi, cond_true, show Int.toNat 0 = 0 from rfl, W.rows_at vs 0 hi,
                    wrap_in _ (by unfold dp; omega) (by unfold dp; omega), show dp (n + 1) + 1 = dp n by unfold dp; omega]
                  simp only [getD0, getD1, getD2]
                  rw [ho, T.v, g_t2a2IL2oB, hd]
                  cases hj : openW n (vs.getD 0 default) with
                  | none =>
                    rw [Option.isSome_none, cond_false, q55_8_v1_eq]
                    exact hfail
                  | some x =>
                    obtain rfl := he x hj
                    have z1 := openW_size _ _ _ hj
                    have z2 : W.sizes vs = (vs.getD 0 default).size + W.sizes (vs.drop 1) := by
                      have := drop_getD vs 0 hi
                      rw [List.drop_zero] at this
                      exact (congrArg W.sizes this).trans (by rw [W.sizes])
                    have h75 := C76n k t'
                    unfold T.v pairV at h75
                    rw [Option.isSome_some, cond_true, h75, T.v, g_t2a2IL2oB, q55_8_eq, Bool.not_true, cond_false, q55_9_eq, show IntKind.wrap .i64 (0 + 1) = Int.ofNat 1 from wrap_up 0 (by omega)]
                    simp only [joinT_hole, hj]
                    exact L55b (k + 1) n vs (k + 1) 200100 m (by omega) hl (by omega) (by omega) hΓ k 1 t' (by omega) (by omega)
                · have hl0 : vs = [] := List.eq_nil_of_length_eq_zero (by omega)
                  subst hl0
                  rw [show decide ((0 : Int) < Int.ofNat ([] : List W).length) = false from lt_no 0 _ (by simp), cond_false, q55_10_eq, meets]
                  exact Res53.ok (t := .mk 4 [.mk 0 []])
            · rw [decide_eq_true (show Int.ofNat vs.length > 32 by simp only [Int.ofNat_eq_natCast]; omega), cond_true, if_neg (fun q => hl q.2.1)]
              exact hfail
          · rw [decide_eq_false hm, Bool.not_false, cond_true, if_neg (fun q => hm q.1)]
            exact hfail
        · rw [decide_eq_false h4, cond_false, if_neg h4, q55_11_eq]
          exact hfail
theorem C27 (k : Nat) (v : W) (hv : v.size ≤ 100000) (hk : 300000 ≤ k) : Ak k 27 [v.v] [] = some (R (bV (rightP v))) := by
  obtain ⟨k, rfl⟩ : ∃ k', k = k' + 1 := ⟨k - 1, by omega⟩
  refine (call27 k v.k v.n (W.rows v.l)).trans ?_
  obtain ⟨t', ho, he⟩ := C55 40 k v hv (by omega) (by omega)
  have h29 := C29 k v (by omega) (by omega)
  unfold W.v at h29
  unfold W.v iV pairV at ho
  rw [show dp 40 = 1 from rfl] at ho
  rw [e27_eq, h29, g_oI, right_eq, rightR]
  have hc : decide (capW v.size > 1000) = !decide (v.size ≤ 1000) := by
    have := cap_le v.size
    by_cases h : v.size ≤ 1000
    · rw [decide_eq_true h] at this ⊢
      simp only [decide_eq_true_eq] at this
      exact decide_eq_false (by omega)
    · rw [decide_eq_false h] at this ⊢
      simp only [decide_eq_false_iff_not] at this
      exact decide_eq_true (by omega)
  rw [hc]
  by_cases h : v.size ≤ 1000
  · rw [decide_eq_true h, Bool.not_true, cond_false, Bool.true_and, q27_0_eq, ho, T.v]
    rfl
  · rw [decide_eq_false h, Bool.not_false, cond_true, Bool.false_and]
/-! ### the law -/
theorem lawHas (t : T) (v : W) : ∃ k, Ak k 4 [V.agg [X.d (D.int IntKind.i64 t.k), X.d (D.list 2 (T.rows t.l))], V.agg [X.d (D.int IntKind.i64 v.k), X.d (D.int IntKind.i64 v.n), X.d (D.list 3 (W.rows v.l))]] [] = some (R (bV true)) := by
  refine ⟨(2000000) + 60 + 1, ?_⟩
  have haw : Ak ((2000000) + 60) 13 [] [] = some (R (bV true)) := awake_all _
  generalize hk : (2000000) + 60 = k at haw ⊢
  refine (call4 k t.k (T.rows t.l) v.k v.n (W.rows v.l)).trans ?_
  rw [e4_eq]
  obtain ⟨k', rfl⟩ : ∃ k', k = k' + 1 := ⟨k - 1, by omega⟩
  have e1 : [[D.int IntKind.i64 t.k, D.list 2 (T.rows t.l)]] = T.rows [t] := by rw [T.rows_one]
  have e2 : [[D.int IntKind.i64 v.k, D.int IntKind.i64 v.n, D.list 3 (W.rows v.l)]] = W.rows [v] := by rw [W.rows_one]
  have hf := C12 k' 2000 (by omega) (by omega) (by omega) [t] (by simp)
  have hf2 := C23 k' 2000 (by omega) (by omega) (by omega) [v] (by simp) (by simp only [List.length_cons, List.length_nil]; omega)
  rw [← e1] at hf
  rw [← e2] at hf2
  rw [hf, g_oB]
  by_cases q1 : ((T.sizes [t] : Nat) : Int) ≤ 2000
  · rw [decide_eq_true q1, Bool.not_true, cond_false, hf2, g_oB]
    by_cases q2 : ((W.sizes [v] : Nat) : Int) ≤ 2000
    · rw [decide_eq_true q2, Bool.not_true, cond_false, q4_0_eq]
      have hsz : W.sizes [v] = v.size := by rw [W.sizes, W.sizes]; omega
      have h24 := C24 (k' + 1) t v (by omega) (by omega)
      have h25 := C25 (k' + 1) t v (by omega) (by omega)
      have h26 := C26 (k' + 1) v (by omega) (by omega)
      have h27 := C27 (k' + 1) v (by omega) (by omega)
      have h28 := C28 (k' + 1) v (by omega) (by omega)
      have h29 := C29 (k' + 1) v (by omega) (by omega)
      unfold T.v W.v at h24 h25
      unfold W.v at h26 h27 h28 h29
      rw [h24, g_oB, h25, g_oB, beq_self_eq_true, cond_true, h26, g_oB, h27, g_oB, beq_self_eq_true, cond_true, h28, g_oI, h29, g_oI, beq_self_eq_true, cond_true, haw, g_oB]
    · rw [decide_eq_false q2, Bool.not_false, cond_true, haw, g_oB]
  · rw [decide_eq_false q1, Bool.not_false, cond_true, haw, g_oB]
end Go.Proofs.YtkpdofiflhjahaaDoor.Ps
