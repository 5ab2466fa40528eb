/- Values: shapes; Right; the law on Has, Right, Size. -/
import Derived.Test.YtkpdofiflhjahaaDoorF9
import Derived.Test.YtkpdofiflhjahaaDoorPvR
namespace Go.Proofs.YtkpdofiflhjahaaDoor.Ps
set_option linter.unusedVariables false
set_option linter.unusedSimpArgs false
open Go Go.RowKit
theorem T.k_mk (k : Int) (l : List T) : (T.mk k l).k = k := rfl
theorem T.l_mk (k : Int) (l : List T) : (T.mk k l).l = l := rfl
def pairV (t : T) (b : Bool) : V := .tup [t.v, bV b]
/-! ### join -/
theorem joinTs_drop (l s : List T) (i : Nat) (h : i < l.length) (h' : i < s.length) : joinTs (l.drop i) (s.drop i) = match joinT (l.getD i default) (s.getD i default) with
    | none => none
    | some x => (joinTs (l.drop (i + 1)) (s.drop (i + 1))).map (x :: ·) := by
  rw [drop_getD l i h, drop_getD s i h', joinTs]; rfl
theorem L75 (k : Nat) (κ z : Int) (l s : List T) (n2 : Nat) (hll : l.length = s.length) (hl : l.length ≤ 1000000) (hΓ : ∀ a ∈ l, ∀ b : T, Ak k 75 [a.v, b.v] [] = some (R (pairV ((joinT a b).getD a) (joinT a b).isSome))) :
    ∀ (m i : Nat) (acc : List T), acc.length ≤ i → l.length - i < m → l75_0_v3 m (Ak k) n2 (Int.ofNat l.length) (Int.ofNat i) κ (T.rows l) z (T.rows s) 0 κ (T.rows acc) =
      some (R (pairV (((joinTs (l.drop i) (s.drop i)).map fun r => T.mk κ (acc ++ r)).getD (.mk κ l)) (joinTs (l.drop i) (s.drop i)).isSome)) := by
  intro m
  induction m with
  | zero => intro i acc _ h; omega
  | succ m ih =>
    intro i acc ha h
    rw [l75_0_v3_eq]
    by_cases hi : i < l.length
    · have := hΓ (l.getD i default) (getD_mem l i hi) (s.getD i default)
      unfold T.v pairV at this
      rw [lt_yes i _ hi, cond_true, q75_1_v3_eq, T.rows_len, T.rows_len, in_range i _ hi, cond_true, in_range i _ (by omega), cond_true, tn, T.rows_at l i hi, T.rows_at s i (by omega)]
      simp only [getD0, getD1]
      rw [this, T.v, g_t2a2IL2oB, joinTs_drop l s i hi (by omega)]
      cases hj : joinT (l.getD i default) (s.getD i default) with
      | none => rfl
      | some x =>
        rw [Option.isSome_some, Bool.not_true, cond_false, q75_2_v3_eq, T.rows_len, ble_t (by simp only [List.length_cons, List.length_nil]; omega)]
        simp only [Bool.and_self, cond_true, Option.getD_some]
        rw [q75_3_v1_eq, wrap_up i (by omega), ← T.rows_one, ← T.rows_app, ih (i + 1) (acc ++ [x]) (by rw [List.length_append, List.length_cons, List.length_nil]; omega) (by omega)]
        cases joinTs (l.drop (i + 1)) (s.drop (i + 1)) with
        | none => rfl
        | some r => simp
    · rw [lt_no i _ (by omega), cond_false, q75_4_v1_eq, List.drop_eq_nil_of_le (by omega), joinTs]
      simp only [Option.map_some, Option.getD_some, List.append_nil]
      rfl
theorem C75 : ∀ (k : Nat) (a b : T), a.size ≤ 1000000 → a.size + 3 ≤ k → Ak k 75 [a.v, b.v] [] = some (R (pairV ((joinT a b).getD a) (joinT a b).isSome))
  | 0, a, b, _, h => by omega
  | k + 1, .mk κ l, .mk κ' s, hs, hk => by
    refine (call75_v2 k κ (T.rows l) κ' (T.rows s)).trans ?_
    have hsz : (T.mk κ l).size = 1 + T.sizes l := by rw [T.size]
    have hlen := T.sizes_len l
    rw [e75_v2_eq, joinT, T.rows_len, T.rows_len, ofNat_neb, int_eqb, int_eqb, int_neb]
    by_cases h0 : κ = 0
    · rw [decide_eq_true h0, cond_true, if_pos h0]; rfl
    · rw [decide_eq_false h0, cond_false, if_neg h0]
      by_cases h1 : κ' = 0
      · rw [decide_eq_true h1, cond_true, if_pos h1]; rfl
      · rw [decide_eq_false h1, cond_false, if_neg h1]
        by_cases h2 : κ = κ'
        · rw [decide_eq_true h2, Bool.not_true, cond_false]
          by_cases h3 : l.length = s.length
          · rw [decide_eq_true h3, Bool.not_true, cond_false, if_neg (show ¬ (κ ≠ κ' ∨ l.length ≠ s.length) from fun q => q.elim (fun q => q h2) (fun q => q h3)), q75_0_v1_eq, T.rows_len]
            have hΓ : ∀ a ∈ l, ∀ b : T, Ak k 75 [a.v, b.v] [] = some (R (pairV ((joinT a b).getD a) (joinT a b).isSome)) := fun x hx y => C75 k x y (by have := T.mem_size hx; omega) (by have := T.mem_size hx; omega)
            obtain ⟨k, rfl⟩ : ∃ k', k = k' + 1 := ⟨k - 1, by omega⟩
            rw [l75_0_v2_eq]
            by_cases hi : 0 < l.length
            · have := hΓ (l.getD 0 default) (getD_mem l 0 hi) (s.getD 0 default)
              unfold T.v pairV at this
              rw [show (0 : Int) = Int.ofNat 0 from rfl, lt_yes 0 _ hi, cond_true, q75_1_v2_eq, T.rows_len, T.rows_len, in_range 0 _ hi, cond_true, in_range 0 _ (by omega), cond_true, tn, T.rows_at l 0 hi, T.rows_at s 0 (by omega)]
              simp only [getD0, getD1]
              have hd := joinTs_drop l s 0 hi (by omega)
              rw [List.drop_zero, List.drop_zero] at hd
              rw [this, T.v, g_t2a2IL2oB, hd]
              cases hj : joinT (l.getD 0 default) (s.getD 0 default) with
              | none => rfl
              | some x =>
                rw [Option.isSome_some, Bool.not_true, cond_false, q75_2_v2_eq, q75_3_v1_eq, wrap_up 0 (by omega)]
                simp only [Option.getD_some]
                rw [← T.rows_one]
                have := L75 (k + 1) κ κ' l s (k + 1) h3 (by omega) hΓ k 1 [x] (by simp) (by omega)
                refine Eq.trans this ?_
                cases joinTs (l.drop 1) (s.drop 1) with
                | none => rfl
                | some r => simp
            · have hl0 : l = [] := List.eq_nil_of_length_eq_zero (by omega)
              subst hl0
              rw [show (0 : Int) = Int.ofNat 0 from rfl, lt_no 0 _ (by simp), cond_false, q75_4_eq, joinTs]
              rfl
          · rw [decide_eq_false h3, Bool.not_false, cond_true, if_pos (show κ ≠ κ' ∨ l.length ≠ s.length from .inr h3)]; rfl
        · rw [decide_eq_false h2, Bool.not_false, cond_true, if_pos (show κ ≠ κ' ∨ l.length ≠ s.length from .inl h2)]; rfl
theorem C75n (k : Nat) (b : T) : Ak (k + 1) 75 [V.agg [X.d (D.int IntKind.i64 0), X.nilL 2], b.v] [] = some (R (pairV b true)) := by
  refine (call75 k 0 b.k (T.rows b.l)).trans ?_
  rw [e75_eq]
  rfl
/-! ### closed -/
theorem closedT_size : ∀ t : T, (closedT t).size ≤ t.size := by
  suffices ∀ n, ∀ t : T, t.size ≤ n → (closedT t).size ≤ t.size from fun t => this _ t (Nat.le_refl _)
  intro n
  induction n with
  | zero => intro t h; have := t.size_pos; omega
  | succ n ih =>
    intro t h
    obtain ⟨κ, l⟩ := t
    rw [closedT]
    split
    · rw [T.size, T.sizes, T.size]; omega
    · rw [T.size, T.size] at *
      have : ∀ l : List T, T.sizes l ≤ n → T.sizes (closedTs l) ≤ T.sizes l := by
        intro l
        induction l with
        | nil => intro _; rw [closedTs]; omega
        | cons a r ih2 =>
          intro h2
          rw [T.sizes] at h2
          rw [closedTs, T.sizes, T.sizes]
          have := ih a (by omega)
          have := ih2 (by omega)
          omega
      have := this l (by omega)
      omega
theorem closedTs_drop (l : List T) (i : Nat) (h : i < l.length) : closedTs (l.drop i) = closedT (l.getD i default) :: closedTs (l.drop (i + 1)) := by
  rw [drop_getD l i h, closedTs]
theorem L54 (k : Nat) (κ : Int) (l : List T) (n2 : Nat) (hl : l.length ≤ 1000000) (hΓ : ∀ a ∈ l, Ak k 54 [a.v] [] = some (R (closedT a).v)) :
    ∀ (m i : Nat) (acc : List T), acc.length ≤ i → l.length - i < m → l54_0_v1 m (Ak k) n2 (T.rows l) (Int.ofNat l.length) (Int.ofNat i) 0 κ (T.rows acc) = some (R (T.v (.mk κ (acc ++ closedTs (l.drop i))))) := by
  intro m
  induction m with
  | zero => intro i acc _ h; omega
  | succ m ih =>
    intro i acc ha h
    rw [l54_0_v1_eq]
    by_cases hi : i < l.length
    · have := hΓ (l.getD i default) (getD_mem l i hi)
      unfold T.v at this
      rw [lt_yes i _ hi, cond_true, q54_1_v1_eq, T.rows_len, in_range i _ hi, cond_true, tn, T.rows_at l i hi]
      simp only [getD0, getD1]
      rw [this, g_a2IL2, T.rows_len, ble_t (by simp only [List.length_cons, List.length_nil]; omega)]
      simp only [Bool.and_self, cond_true]
      rw [q54_2_eq, wrap_up i (by omega), ← T.rows_one, ← T.rows_app, ih (i + 1) (acc ++ [closedT (l.getD i default)]) (by rw [List.length_append, List.length_cons, List.length_nil]; omega) (by omega), closedTs_drop l i hi]
      simp
    · rw [lt_no i _ (by omega), cond_false, q54_3_v1_eq, List.drop_eq_nil_of_le (by omega), closedTs, List.append_nil]
      rfl
theorem C54 : ∀ (k : Nat) (a : T), a.size ≤ 1000000 → a.size + 3 ≤ k → Ak k 54 [a.v] [] = some (R (closedT a).v)
  | 0, a, _, h => by omega
  | k + 1, .mk κ l, hs, hk => by
    refine (call54 k κ (T.rows l)).trans ?_
    have hsz : (T.mk κ l).size = 1 + T.sizes l := by rw [T.size]
    have hlen := T.sizes_len l
    rw [e54_eq, closedT, int_eqb]
    by_cases h0 : κ = 0
    · rw [decide_eq_true h0, cond_true, if_pos h0]; rfl
    · rw [decide_eq_false h0, cond_false, if_neg h0, q54_0_eq, T.rows_len]
      have hΓ : ∀ a ∈ l, Ak k 54 [a.v] [] = some (R (closedT a).v) := fun x hx => C54 k x (by have := T.mem_size hx; omega) (by have := T.mem_size hx; omega)
      obtain ⟨k, rfl⟩ : ∃ k', k = k' + 1 := ⟨k - 1, by omega⟩
      rw [l54_0_eq]
      by_cases hi : 0 < l.length
      · have := hΓ (l.getD 0 default) (getD_mem l 0 hi)
        unfold T.v at this
        rw [show (0 : Int) = Int.ofNat 0 from rfl, lt_yes 0 _ hi, cond_true, q54_1_eq, T.rows_len, in_range 0 _ hi, cond_true, tn, T.rows_at l 0 hi]
        simp only [getD0, getD1]
        have hd := closedTs_drop l 0 hi
        rw [List.drop_zero] at hd
        rw [this, g_a2IL2, q54_2_eq, wrap_up 0 (by omega), ← T.rows_one, hd]
        exact L54 (k + 1) κ l (k + 1) (by omega) hΓ k 1 [closedT (l.getD 0 default)] (by simp) (by omega)
      · have hl0 : l = [] := List.eq_nil_of_length_eq_zero (by omega)
        subst hl0
        rw [show (0 : Int) = Int.ofNat 0 from rfl, lt_no 0 _ (by simp), cond_false, q54_3_eq, closedTs]
        rfl
/-! ### shape -/
def Res53 (x : Option T) (o : Option Out) : Prop := ∃ t' : T, o = some (R (pairV t' x.isSome)) ∧ ∀ t, x = some t → t' = t
theorem Res53.fail {t' : T} : Res53 none (some (R (pairV t' false))) := ⟨t', rfl, fun t h => by cases h⟩
theorem Res53.ok {t : T} : Res53 (some t) (some (R (pairV t true))) := ⟨t, rfl, fun t' h => by cases h; rfl⟩
theorem shapes_drop (f : W → Option T) (l : List W) (i : Nat) (h : i < l.length) : shapes f (l.drop i) = match f (l.getD i default) with
    | none => none
    | some t => (shapes f (l.drop (i + 1))).map (t :: ·) := by
  rw [drop_getD l i h, shapes]; rfl
theorem meets_drop (f : W → Option T) (l : List W) (i : Nat) (a : T) (h : i < l.length) : meets f (l.drop i) a = match f (l.getD i default) with
    | none => none
    | some t => match joinT a t with
      | none => none
      | some x => meets f (l.drop (i + 1)) x := by
  rw [drop_getD l i h, meets]; rfl
theorem L53a (k n : Nat) (l : List W) (n2 : Nat) (hn : n ≤ 1000) (hl : l.length ≤ 4) (hΓ : ∀ a ∈ l, Res53 (shapeW n a) (Ak k 53 [a.v, iV (n : Nat)] [])) :
    ∀ (m i : Nat) (acc : List T), acc.length ≤ i → l.length - i < m → Res53 ((shapes (shapeW n) (l.drop i)).map fun r => T.mk 3 (acc ++ r)) (l53_0_v1 m (Ak k) n2 (n + 1 : Nat) (W.rows l) (Int.ofNat l.length) (Int.ofNat i) 0 3 (T.rows acc)) := by
  intro m
  induction m with
  | zero => intro i acc _ h; omega
  | succ m ih =>
    intro i acc ha h
    rw [l53_0_v1_eq]
    by_cases hi : i < l.length
    · obtain ⟨t', ho, he⟩ := hΓ (l.getD i default) (getD_mem l i hi)
      unfold W.v pairV at ho
      rw [lt_yes i _ hi, cond_true, q53_0_v1_eq, W.rows_len, in_range i _ hi, cond_true, tn, W.rows_at l i hi, wrap_in _ (by omega) (by omega), show ((n + 1 : Nat) : Int) - 1 = (n : Int) by omega]
      simp only [getD0, getD1, getD2]
      rw [ho, T.v, g_t2a2IL2oB, shapes_drop _ l i hi]
      cases hj : shapeW n (l.getD i default) with
      | none => exact Res53.fail (t' := .mk 3 acc)
      | some x =>
        obtain rfl := he x hj
        rw [Option.isSome_some, Bool.not_true, cond_false, q53_1_v1_eq, T.rows_len, ble_t (by simp only [List.length_cons, List.length_nil]; omega)]
        simp only [Bool.and_self, cond_true]
        rw [q53_2_eq, wrap_up i (by omega), ← T.rows_one, ← T.rows_app]
        have := ih (i + 1) (acc ++ [t']) (by rw [List.length_append, List.length_cons, List.length_nil]; omega) (by omega)
        cases hs : shapes (shapeW n) (l.drop (i + 1)) with
        | none => rw [hs] at this; exact this
        | some r =>
          rw [hs] at this
          simp only [Option.map_some, List.append_assoc, List.singleton_append] at this ⊢
          exact this
    · rw [lt_no i _ (by omega), cond_false, q53_3_v1_eq, List.drop_eq_nil_of_le (by omega), shapes]
      simp only [Option.map_some, List.append_nil]
      exact Res53.ok (t := .mk 3 acc)
theorem joinT_size : ∀ (a b c : T), joinT a b = some c → c.size ≤ a.size + b.size := by
  suffices ∀ n, ∀ a b c : T, a.size ≤ n → joinT a b = some c → c.size ≤ a.size + b.size from fun a b c => this _ a b c (Nat.le_refl _)
  intro n
  induction n with
  | zero => intro a b c h; have := a.size_pos; omega
  | succ n ih =>
    intro a b c h hj
    obtain ⟨k, l⟩ := a
    obtain ⟨k', l'⟩ := b
    rw [joinT] at hj
    split at hj
    · cases hj; have := T.size_pos (T.mk k l); omega
    · split at hj
      · cases hj; have := T.size_pos (T.mk k' l'); omega
      · split at hj
        · cases hj
        · rw [Option.map_eq_some_iff] at hj
          obtain ⟨r, hr, rfl⟩ := hj
          have key : ∀ (l l' r : List T), T.sizes l ≤ n → joinTs l l' = some r → T.sizes r ≤ T.sizes l + T.sizes l' := by
            intro l
            induction l with
            | nil => intro l' r _ h; rw [joinTs] at h; cases h; rw [T.sizes]; omega
            | cons a l ih2 =>
              intro l' r hs h
              cases l' with
              | nil => rw [joinTs] at h; cases h
              | cons b l' =>
                rw [joinTs] at h
                split at h
                · cases h
                · rename_i x hx
                  rw [Option.map_eq_some_iff] at h
                  obtain ⟨r', hr', rfl⟩ := h
                  rw [T.sizes] at hs
                  have h1 := ih a b x (by omega) hx
                  have h2 := ih2 l' r' (by omega) hr'
                  rw [T.sizes, T.sizes, T.sizes]
                  omega
          rw [T.size] at h
          have := key l l' r (by omega) hr
          rw [T.size, T.size, T.size]
          omega
theorem shapeW_size : ∀ (n : Nat) (v : W) (t : T), shapeW n v = some t → t.size ≤ 2 * v.size
  | 0, _, _, h => by cases h
  | n + 1, .mk k m vs, t, h => by
    have hs : ∀ (l : List W) (r : List T), shapes (shapeW n) l = some r → T.sizes r ≤ 2 * W.sizes l := by
      intro l
      induction l with
      | nil => intro r h; cases h; rw [T.sizes]; omega
      | cons v l ih =>
        intro r h
        unfold shapes at h
        split at h
        · cases h
        · rename_i t ht
          rw [Option.map_eq_some_iff] at h
          obtain ⟨r', hr, rfl⟩ := h
          have h1 := shapeW_size n v t ht
          have h2 := ih r' hr
          rw [T.sizes, W.sizes]; omega
    have hm : ∀ (l : List W) (a x : T), meets (shapeW n) l a = some x → x.size ≤ a.size + 2 * W.sizes l := by
      intro l
      induction l with
      | nil => intro a x h; cases h; rw [W.sizes]; omega
      | cons v l ih =>
        intro a x h
        unfold meets at h
        split at h
        · cases h
        · rename_i t ht
          split at h
          · cases h
          · rename_i y hy
            have h1 := shapeW_size n v t ht
            have h2 := joinT_size _ _ _ hy
            have h3 := ih y x h
            rw [W.sizes]; omega
    unfold shapeW at h
    split at h
    · split at h
      · cases h; rw [T.size, T.sizes, W.size]; omega
      · cases h
    · split at h
      · rw [Option.map_eq_some_iff] at h
        obtain ⟨r, hr, rfl⟩ := h
        have := hs vs r hr
        rw [T.size, W.size]; omega
      · split at h
        · rw [Option.map_eq_some_iff] at h
          obtain ⟨x, hx, rfl⟩ := h
          have := hm vs _ x hx
          have e : (T.mk 0 []).size = 1 := by rw [T.size, T.sizes]
          rw [T.size, T.sizes, T.sizes, W.size]; omega
        · cases h
end Go.Proofs.YtkpdofiflhjahaaDoor.Ps
