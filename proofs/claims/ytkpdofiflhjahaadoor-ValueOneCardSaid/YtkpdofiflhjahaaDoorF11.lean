/- Values: the shape a value has; Right, by the program and by the reference. -/
import Derived.Test.YtkpdofiflhjahaaDoorF10
namespace Go.Proofs.YtkpdofiflhjahaaDoor.Ps
set_option linter.unusedVariables false
set_option linter.unusedSimpArgs false
open Go Go.RowKit
theorem joinT_hole (l : List T) (t : T) : joinT (.mk 0 l) t = some t := by
  cases t
  rw [joinT, if_pos rfl]
theorem L53b (k n : Nat) (l : List W) (n2 S : Nat) (hn : n ≤ 1000) (hl : l.length ≤ 32) (hS : S ≤ 1000000) (hk : S + 3 ≤ k) (hΓ : ∀ a ∈ l, Res53 (shapeW n a) (Ak k 53 [a.v, iV (n : Nat)] [])) :
    ∀ (m i : Nat) (a : T), a.size + 2 * W.sizes (l.drop i) ≤ S → l.length - i < m → Res53 ((meets (shapeW n) (l.drop i) a).map fun x => T.mk 4 [x]) (l53_1_v1 m (Ak k) n2 (n + 1 : Nat) (W.rows l) (Int.ofNat l.length) (Int.ofNat i) 0 4 a.k (T.rows a.l)) := by
  intro m
  induction m with
  | zero => intro i a _ h; omega
  | succ m ih =>
    intro i a ha h
    rw [l53_1_v1_eq]
    by_cases hi : i < l.length
    · obtain ⟨t', ho, he⟩ := hΓ (l.getD i default) (getD_mem l i hi)
      unfold W.v pairV at ho
      rw [lt_yes i _ hi, cond_true, q53_4_v1_eq, W.rows_len, in_range i _ hi, cond_true, tn, W.rows_at l i hi, wrap_in _ (by omega) (by omega), show ((n + 1 : Nat) : Int) - 1 = (n : Int) by omega]
      simp only [getD0, getD1, getD2]
      rw [ho, T.v, g_t2a2IL2oB, meets_drop _ l i a hi]
      rw [drop_getD l i hi, W.sizes] at ha
      cases hj : shapeW n (l.getD i default) with
      | none =>
        rw [Option.isSome_none, cond_false, q53_5_eq]
        exact Res53.fail (t' := .mk 4 [])
      | some x =>
        obtain rfl := he x hj
        have z1 := shapeW_size _ _ _ hj
        have h75 := C75 k a t' (by omega) (by omega)
        unfold T.v pairV at h75
        rw [Option.isSome_some, cond_true, h75, T.v, g_t2a2IL2oB, q53_5_eq]
        cases hx : joinT a t' with
        | none =>
          simp only [hx, Option.isSome_none, Bool.not_false, cond_true]
          exact Res53.fail (t' := .mk 4 [])
        | some y =>
          have z2 := joinT_size _ _ _ hx
          rw [Option.isSome_some, Bool.not_true, cond_false, q53_6_eq, wrap_up i (by omega)]
          simp only [hx, Option.getD_some]
          exact ih (i + 1) y (by omega) (by omega)
    · rw [lt_no i _ (by omega), cond_false, q53_7_v1_eq, List.drop_eq_nil_of_le (by omega), meets]
      refine Eq.subst (motive := fun r => Res53 _ (some (Out.mk true (V.tup [V.agg [X.d (D.int IntKind.i64 4), X.d (D.list 2 r)], V.one (X.d (D.bool true))]) D.junk [] 0))) (T.rows_one a) (Res53.ok (t := .mk 4 [a]))
theorem C53 : ∀ (n k : Nat) (v : W), v.size ≤ 100000 → n + 250000 ≤ k → n ≤ 1000 → Res53 (shapeW n v) (Ak k 53 [v.v, iV (n : Nat)] [])
  | _, 0, _, _, h, _ => by omega
  | 0, k + 1, .mk κ m vs, hv, hk, hn => by
    have hc := call53 k κ m (W.rows vs) ((0 : Nat) : Int)
    rw [e53_eq] at hc
    rw [show Ak (k + 1) 53 [(W.mk κ m vs).v, iV ((0 : Nat) : Int)] [] = _ from hc, decide_eq_true (show ((0 : Nat) : Int) < 1 by omega), cond_true]
    exact Res53.fail (t' := .mk κ [])
  | n + 1, k + 1, .mk κ m vs, hv, hk, hn => by
    have hc := call53 k κ m (W.rows vs) ((n + 1 : Nat) : Int)
    rw [e53_eq] at hc
    rw [show Ak (k + 1) 53 [(W.mk κ m vs).v, iV ((n + 1 : Nat) : Int)] [] = _ from hc, decide_eq_false (show ¬ ((n + 1 : Nat) : Int) < 1 by omega), cond_false, W.rows_len]
    clear hc
    have hsz : (W.mk κ m vs).size = 1 + W.sizes vs := by rw [W.size]
    have hlen := W.sizes_len vs
    simp only [int_eqb]
    obtain ⟨k, rfl⟩ : ∃ k', k = k' + 1 := ⟨k - 1, by omega⟩
    rw [shapeW]
    have hΓ : ∀ a ∈ vs, Res53 (shapeW n a) (Ak (k + 1) 53 [a.v, iV (n : Nat)] []) := fun x hx => C53 n (k + 1) x (by have := W.mem_size hx; omega) (by omega) (by omega)
    have basic : ∀ hκ : κ = 1 ∨ κ = 2, Res53 (if hasT 1 (.mk κ []) (.mk κ m vs) = true then some (T.mk κ []) else none) (r_oB (Ak (k + 1) 51 [V.agg [X.d (D.int IntKind.i64 κ), X.nilL 2], V.agg [X.d (D.int IntKind.i64 κ), X.d (D.int IntKind.i64 m), X.d (D.list 3 (W.rows vs))]] []) [] fun c1_ => some (Out.mk true (V.tup [V.agg [X.d (D.int IntKind.i64 κ), X.d (D.list 2 [])], V.one (X.d (D.bool c1_))]) D.junk [] 0)) := by
      intro hκ
      have h51 : Ak (k + 1) 51 [V.agg [X.d (D.int IntKind.i64 κ), X.nilL 2], V.agg [X.d (D.int IntKind.i64 κ), X.d (D.int IntKind.i64 m), X.d (D.list 3 (W.rows vs))]] [] = _ := C51n k κ m vs hκ
      rw [h51, g_oB]
      cases hasT 1 (.mk κ []) (.mk κ m vs) with
      | true => exact Res53.ok (t := .mk κ [])
      | false => exact Res53.fail (t' := .mk κ [])
    by_cases h1 : κ = 1
    · rw [decide_eq_true h1, cond_true, if_pos (.inl h1)]
      exact basic (.inl h1)
    · rw [decide_eq_false h1, cond_false]
      by_cases h2 : κ = 2
      · rw [decide_eq_true h2, cond_true, if_pos (.inr h2)]
        exact basic (.inr h2)
      · rw [decide_eq_false h2, cond_false, if_neg (show ¬ (κ = 1 ∨ κ = 2) from fun q => q.elim h1 h2)]
        clear basic
        rw [q53_8_eq]
        have hfail : Res53 none (some (Out.mk true (V.tup [V.agg [X.d (D.int IntKind.i64 κ), X.d (D.list 2 [])], V.one (X.d (D.bool false))]) D.junk [] 0)) := Res53.fail (t' := .mk κ [])
        by_cases h3 : κ = 3
        · have h4 : ¬ κ = 4 := by omega
          rw [decide_eq_true h3, cond_true, decide_eq_false h4]
          simp only [cond_false]
          rw [if_neg (show ¬ (κ = 4 ∧ m = 0 ∧ vs.length ≤ 32) from fun q => h4 q.1)]
          by_cases hm : m = 0
          · rw [decide_eq_true hm, cond_true]
            by_cases hl2 : 2 ≤ vs.length
            · rw [decide_eq_true (show Int.ofNat vs.length ≥ 2 by simp only [Int.ofNat_eq_natCast]; omega), cond_true]
              by_cases hl4 : vs.length ≤ 4
              · rw [decide_eq_true (show Int.ofNat vs.length ≤ 4 by simp only [Int.ofNat_eq_natCast]; omega), cond_true, if_pos ⟨h3, hm, hl2, hl4⟩, l53_0_eq]
                subst h3
                have hi : 0 < vs.length := by omega
                obtain ⟨t', ho, he⟩ := hΓ (vs.getD 0 default) (getD_mem vs 0 hi)
                unfold W.v pairV at ho
                have hd := shapes_drop (shapeW n) vs 0 hi
                rw [List.drop_zero] at hd
                rw [show (0 : Int) = Int.ofNat 0 from rfl, lt_yes 0 _ hi, cond_true, q53_0_eq, W.rows_len, in_range 0 _ hi, cond_true, tn, W.rows_at vs 0 hi, wrap_in _ (by omega) (by omega), show ((n + 1 : Nat) : Int) - 1 = (n : Int) by omega]
                simp only [getD0, getD1, getD2]
                rw [ho, T.v, g_t2a2IL2oB, hd]
                cases hj : shapeW n (vs.getD 0 default) with
                | none => exact Res53.fail (t' := .mk 3 [])
                | some x =>
                  obtain rfl := he x hj
                  rw [Option.isSome_some, Bool.not_true, cond_false, q53_1_eq, q53_2_eq, wrap_up 0 (by omega), ← T.rows_one]
                  have := L53a (k + 1) n vs (k + 1) (by omega) hl4 hΓ k 1 [t'] (by simp) (by omega)
                  cases hs : shapes (shapeW n) (vs.drop 1) with
                  | none => rw [hs] at this; exact this
                  | some r =>
                    rw [hs] at this
                    exact this
              · rw [decide_eq_false (show ¬ Int.ofNat vs.length ≤ 4 by simp only [Int.ofNat_eq_natCast]; omega), cond_false, if_neg (fun q => hl4 q.2.2.2)]
                exact hfail
            · rw [decide_eq_false (show ¬ Int.ofNat vs.length ≥ 2 by simp only [Int.ofNat_eq_natCast]; omega), cond_false, if_neg (fun q => hl2 q.2.2.1)]
              exact hfail
          · rw [decide_eq_false hm, cond_false, if_neg (fun q => hm q.2.1)]
            exact hfail
        · rw [decide_eq_false h3, cond_false, if_neg (fun q => h3 q.1)]
          by_cases h4 : κ = 4
          · rw [decide_eq_true h4, cond_true]
            by_cases hm : m = 0
            · rw [decide_eq_true hm, cond_true]
              by_cases hl : vs.length ≤ 32
              · rw [decide_eq_true (show Int.ofNat vs.length ≤ 32 by simp only [Int.ofNat_eq_natCast]; omega), cond_true, if_pos ⟨h4, hm, hl⟩, l53_1_eq]
                subst h4
                by_cases hi : 0 < vs.length
                · obtain ⟨t', ho, he⟩ := hΓ (vs.getD 0 default) (getD_mem vs 0 hi)
                  unfold W.v pairV at ho
                  have hd := meets_drop (shapeW n) vs 0 (.mk 0 []) hi
                  rw [List.drop_zero] at hd
                  rw [show decide ((0 : Int) < Int.ofNat vs.length) = true from lt_yes 0 _ hi, cond_true, q53_4_eq, W.rows_len, show (decide ((0 : Int) ≤ 0) && decide ((0 : Int) < Int.ofNat vs.length)) = true from in_range 0 _ hi, cond_true, show Int.toNat 0 = 0 from rfl, W.rows_at vs 0 hi, wrap_in _ (by omega) (by omega), show ((n + 1 : Nat) : Int) - 1 = (n : Int) by omega]
                  simp only [getD0, getD1, getD2]
                  rw [ho, T.v, g_t2a2IL2oB, hd]
                  cases hj : shapeW n (vs.getD 0 default) with
                  | none =>
                    rw [Option.isSome_none, cond_false, q53_5_v1_eq]
                    exact Res53.fail (t' := .mk 4 [])
                  | some x =>
                    obtain rfl := he x hj
                    have z1 := shapeW_size _ _ _ hj
                    have z2 : W.sizes vs = (vs.getD 0 default).size + W.sizes (vs.drop 1) := by
                      have := drop_getD vs 0 hi
                      rw [List.drop_zero] at this
                      exact (congrArg W.sizes this).trans (by rw [W.sizes])
                    have h75 := C75n k t'
                    unfold T.v pairV at h75
                    rw [Option.isSome_some, cond_true, h75, T.v, g_t2a2IL2oB, q53_5_eq, Bool.not_true, cond_false, q53_6_eq, show IntKind.wrap .i64 (0 + 1) = Int.ofNat 1 from wrap_up 0 (by omega)]
                    simp only [joinT_hole, hj]
                    exact L53b (k + 1) n vs (k + 1) 200100 (by omega) hl (by omega) (by omega) hΓ k 1 t' (by omega) (by omega)
                · have hl0 : vs = [] := List.eq_nil_of_length_eq_zero (by omega)
                  subst hl0
                  rw [show decide ((0 : Int) < Int.ofNat ([] : List W).length) = false from lt_no 0 _ (by simp), cond_false, q53_7_eq, meets]
                  exact Res53.ok (t := .mk 4 [.mk 0 []])
              · rw [decide_eq_false (show ¬ Int.ofNat vs.length ≤ 32 by simp only [Int.ofNat_eq_natCast]; omega), cond_false, if_neg (fun q => hl q.2.2)]
                exact hfail
            · rw [decide_eq_false hm, cond_false, if_neg (fun q => hm q.2.1)]
              exact hfail
          · rw [decide_eq_false h4, cond_false, if_neg (fun q => h4 q.1)]
            exact hfail
theorem C26 (k : Nat) (v : W) (hv : v.size ≤ 100000) (hk : 300000 ≤ k) : Ak k 26 [v.v] [] = some (R (bV (rightP v))) := by
  obtain ⟨k, rfl⟩ : ∃ k', k = k' + 1 := ⟨k - 1, by omega⟩
  refine (call26 k v.k v.n (W.rows v.l)).trans ?_
  obtain ⟨t', ho, he⟩ := C53 40 k v hv (by omega) (by omega)
  have h28 := C28 k v (by omega) (by omega)
  unfold W.v at h28
  unfold W.v iV pairV at ho
  rw [e26_eq]
  unfold rightP
  rw [show ((40 : Nat) : Int) = 40 from rfl] at ho
  rw [ho, T.v, g_t2a2IL2oB]
  cases hj : shapeW 40 v with
  | none => rfl
  | some t =>
    obtain rfl := he t hj
    have z1 := shapeW_size _ _ _ hj
    have h54 := C54 k t' (by omega) (by omega)
    have h16 := C16 k (by omega) (closedT t')
    unfold T.v at h54 h16
    rw [Option.isSome_some, cond_true, h54, g_a2IL2, h16, g_oB]
    cases hd : deepT 40 (closedT t') with
    | false => simp only [hd]; rfl
    | true =>
      simp only [hd, cond_true, Bool.true_and]
      rw [h28, g_oI, cap_le]
end Go.Proofs.YtkpdofiflhjahaaDoor.Ps
