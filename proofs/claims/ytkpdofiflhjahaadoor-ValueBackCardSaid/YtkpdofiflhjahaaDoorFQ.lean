/- Values: shapes; Right; the law on Has, Right, Size. -/
import Derived.Test.YtkpdofiflhjahaaDoorFB
import Derived.Test.YtkpdofiflhjahaaDoorPvX
import Derived.Test.YtkpdofiflhjahaaDoorVk
namespace Go.Proofs.YtkpdofiflhjahaaDoor.Ps
section
set_option linter.unusedVariables false
set_option linter.unusedSimpArgs false
open Go Go.RowKit
theorem T.k_mk (k : Int) (l : List T) : (T.mk k l).k = k := rfl
theorem T.l_mk (k : Int) (l : List T) : (T.mk k l).l = l := rfl
def pairV (t : T) (b : Bool) : V := .tup [t.v, bV b]
/-! ### join -/
theorem joinTs_drop (l s : List T) (i : Nat) (h : i < l.length) (h' : i < s.length) : joinTs (l.drop i) (s.drop i) = match joinT (l.getD i default) (s.getD i default) with
    | none => none
    | some x => (joinTs (l.drop (i + 1)) (s.drop (i + 1))).map (x :: ·) := by
  rw [drop_getD l i h, drop_getD s i h', joinTs]; rfl
theorem L75 (k : Nat) (κ z : Int) (l s : List T) (n2 : Nat) (hll : l.length = s.length) (hl : l.length ≤ 1000000) (hΓ : ∀ a ∈ l, ∀ b : T, Ak k 75 [a.v, b.v] [] = some (R (pairV ((joinT a b).getD a) (joinT a b).isSome))) :
    ∀ (m i : Nat) (acc : List T), acc.length ≤ i → l.length - i < m → l75_0_v3 m (Ak k) n2 (Int.ofNat l.length) (Int.ofNat i) κ (T.rows l) z (T.rows s) 0 κ (T.rows acc) =
      some (R (pairV (((joinTs (l.drop i) (s.drop i)).map fun r => T.mk κ (acc ++ r)).getD (.mk κ l)) (joinTs (l.drop i) (s.drop i)).isSome)) := by
  intro m
  induction m with
  | zero => intro i acc _ h; omega
  | succ m ih =>
    intro i acc ha h
    rw [l75_0_v3_eq]
    by_cases hi : i < l.length
    · have := hΓ (l.getD i default) (getD_mem l i hi) (s.getD i default)
      unfold T.v pairV at this
      rw [lt_yes i _ hi, cond_true, q75_1_v3_eq, T.rows_len, T.rows_len, in_range i _ hi, cond_true, in_range i _ (by omega), cond_true, tn, T.rows_at l i hi, T.rows_at s i (by omega)]
      simp only [getD0, getD1]
      rw [this, T.v, g_t2a2IL2oB, joinTs_drop l s i hi (by omega)]
      cases hj : joinT (l.getD i default) (s.getD i default) with
      | none => rfl
      | some x =>
        rw [Option.isSome_some, Bool.not_true, cond_false, q75_2_v3_eq, T.rows_len, ble_t (by simp only [List.length_cons, List.length_nil]; omega)]
        simp only [Bool.and_self, cond_true, Option.getD_some]
        rw [q75_3_v1_eq, wrap_up i (by omega), ← T.rows_one, ← T.rows_app, ih (i + 1) (acc ++ [x]) (by rw [List.length_append, List.length_cons, List.length_nil]; omega) (by omega)]
        cases joinTs (l.drop (i + 1)) (s.drop (i + 1)) with
        | none => rfl
        | some r => simp
    · rw [lt_no i _ (by omega), cond_false, q75_4_v1_eq, List.drop_eq_nil_of_le (by omega), joinTs]
      simp only [Option.map_some, Option.getD_some, List.append_nil]
      rfl
theorem C75 : ∀ (k : Nat) (a b : T), a.size ≤ 1000000 → a.size + 3 ≤ k → Ak k 75 [a.v, b.v] [] = some (R (pairV ((joinT a b).getD a) (joinT a b).isSome))
  | 0, a, b, _, h => by omega
  | k + 1, .mk κ l, .mk κ' s, hs, hk => by
    refine (call75_v2 k κ (T.rows l) κ' (T.rows s)).trans ?_
    have hsz : (T.mk κ l).size = 1 + T.sizes l := by rw [T.size]
    have hlen := T.sizes_len l
    rw [e75_v2_eq, joinT, T.rows_len, T.rows_len, ofNat_neb, int_eqb, int_eqb, int_neb]
    by_cases h0 : κ = 0
    · rw [decide_eq_true h0, cond_true, if_pos h0]; rfl
    · rw [decide_eq_false h0, cond_false, if_neg h0]
      by_cases h1 : κ' = 0
      · rw [decide_eq_true h1, cond_true, if_pos h1]; rfl
      · rw [decide_eq_false h1, cond_false, if_neg h1]
        by_cases h2 : κ = κ'
        · rw [decide_eq_true h2, Bool.not_true, cond_false]
          by_cases h3 : l.length = s.length
          · rw [decide_eq_true h3, Bool.not_true, cond_false, if_neg (show ¬ (κ ≠ κ' ∨ l.length ≠ s.length) from fun q => q.elim (fun q => q h2) (fun q => q h3)), q75_0_v1_eq, T.rows_len]
            have hΓ : ∀ a ∈ l, ∀ b : T, Ak k 75 [a.v, b.v] [] = some (R (pairV ((joinT a b).getD a) (joinT a b).isSome)) := fun x hx y => C75 k x y (by have := T.mem_size hx; omega) (by have := T.mem_size hx; omega)
            obtain ⟨k, rfl⟩ : ∃ k', k = k' + 1 := ⟨k - 1, by omega⟩
            rw [l75_0_v2_eq]
            by_cases hi : 0 < l.length
            · have := hΓ (l.getD 0 default) (getD_mem l 0 hi) (s.getD 0 default)
              unfold T.v pairV at this
              rw [show (0 : Int) = Int.ofNat 0 from rfl, lt_yes 0 _ hi, cond_true, q75_1_v2_eq, T.rows_len, T.rows_len, in_range 0 _ hi, cond_true, in_range 0 _ (by omega), cond_true, tn, T.rows_at l 0 hi, T.rows_at s 0 (by omega)]
              simp only [getD0, getD1]
              have hd := joinTs_drop l s 0 hi (by omega)
              rw [List.drop_zero, List.drop_zero] at hd
              rw [this, T.v, g_t2a2IL2oB, hd]
              cases hj : joinT (l.getD 0 default) (s.getD 0 default) with
              | none => rfl
              | some x =>
                rw [Option.isSome_some, Bool.not_true, cond_false, q75_2_v2_eq, q75_3_v1_eq, wrap_up 0 (by omega)]
                simp only [Option.getD_some]
                rw [← T.rows_one]
                have := L75 (k + 1) κ κ' l s (k + 1) h3 (by omega) hΓ k 1 [x] (by simp) (by omega)
                refine Eq.trans this ?_
                cases joinTs (l.drop 1) (s.drop 1) with
                | none => rfl
                | some r => simp
            · have hl0 : l = [] := List.eq_nil_of_length_eq_zero (by omega)
              subst hl0
              rw [show (0 : Int) = Int.ofNat 0 from rfl, lt_no 0 _ (by simp), cond_false, q75_4_eq, joinTs]
              rfl
          · rw [decide_eq_false h3, Bool.not_false, cond_true, if_pos (show κ ≠ κ' ∨ l.length ≠ s.length from .inr h3)]; rfl
        · rw [decide_eq_false h2, Bool.not_false, cond_true, if_pos (show κ ≠ κ' ∨ l.length ≠ s.length from .inl h2)]; rfl
theorem C75n (k : Nat) (b : T) : Ak (k + 1) 75 [V.agg [X.d (D.int IntKind.i64 0), X.nilL 2], b.v] [] = some (R (pairV b true)) := by
  refine (call75 k 0 b.k (T.rows b.l)).trans ?_
  rw [e75_eq]
  rfl
/-! ### closed -/
theorem closedT_size : ∀ t : T, (closedT t).size ≤ t.size := by
  suffices ∀ n, ∀ t : T, t.size ≤ n → (closedT t).size ≤ t.size from fun t => this _ t (Nat.le_refl _)
  intro n
  induction n with
  | zero => intro t h; have := t.size_pos; omega
  | succ n ih =>
    intro t h
    obtain ⟨κ, l⟩ := t
    rw [closedT]
    split
    · rw [T.size, T.sizes, T.size]; omega
    · rw [T.size, T.size] at *
      have : ∀ l : List T, T.sizes l ≤ n → T.sizes (closedTs l) ≤ T.sizes l := by
        intro l
        induction l with
        | nil => intro _; rw [closedTs]; omega
        | cons a r ih2 =>
          intro h2
          rw [T.sizes] at h2
          rw [closedTs, T.sizes, T.sizes]
          have := ih a (by omega)
          have := ih2 (by omega)
          omega
      have := this l (by omega)
      omega
theorem closedTs_drop (l : List T) (i : Nat) (h : i < l.length) : closedTs (l.drop i) = closedT (l.getD i default) :: closedTs (l.drop (i + 1)) := by
  rw [drop_getD l i h, closedTs]
theorem L54 (k : Nat) (κ : Int) (l : List T) (n2 : Nat) (hl : l.length ≤ 1000000) (hΓ : ∀ a ∈ l, Ak k 54 [a.v] [] = some (R (closedT a).v)) :
    ∀ (m i : Nat) (acc : List T), acc.length ≤ i → l.length - i < m → l54_0_v1 m (Ak k) n2 (T.rows l) (Int.ofNat l.length) (Int.ofNat i) 0 κ (T.rows acc) = some (R (T.v (.mk κ (acc ++ closedTs (l.drop i))))) := by
  intro m
  induction m with
  | zero => intro i acc _ h; omega
  | succ m ih =>
    intro i acc ha h
    rw [l54_0_v1_eq]
    by_cases hi : i < l.length
    · have := hΓ (l.getD i default) (getD_mem l i hi)
      unfold T.v at this
      rw [lt_yes i _ hi, cond_true, q54_1_v1_eq, T.rows_len, in_range i _ hi, cond_true, tn, T.rows_at l i hi]
      simp only [getD0, getD1]
      rw [this, g_a2IL2, T.rows_len, ble_t (by simp only [List.length_cons, List.length_nil]; omega)]
      simp only [Bool.and_self, cond_true]
      rw [q54_2_eq, wrap_up i (by omega), ← T.rows_one, ← T.rows_app, ih (i + 1) (acc ++ [closedT (l.getD i default)]) (by rw [List.length_append, List.length_cons, List.length_nil]; omega) (by omega), closedTs_drop l i hi]
      simp
    · rw [lt_no i _ (by omega), cond_false, q54_3_v1_eq, List.drop_eq_nil_of_le (by omega), closedTs, List.append_nil]
      rfl
theorem C54 : ∀ (k : Nat) (a : T), a.size ≤ 1000000 → a.size + 3 ≤ k → Ak k 54 [a.v] [] = some (R (closedT a).v)
  | 0, a, _, h => by omega
  | k + 1, .mk κ l, hs, hk => by
    refine (call54 k κ (T.rows l)).trans ?_
    have hsz : (T.mk κ l).size = 1 + T.sizes l := by rw [T.size]
    have hlen := T.sizes_len l
    rw [e54_eq, closedT, int_eqb]
    by_cases h0 : κ = 0
    · rw [decide_eq_true h0, cond_true, if_pos h0]; rfl
    · rw [decide_eq_false h0, cond_false, if_neg h0, q54_0_eq, T.rows_len]
      have hΓ : ∀ a ∈ l, Ak k 54 [a.v] [] = some (R (closedT a).v) := fun x hx => C54 k x (by have := T.mem_size hx; omega) (by have := T.mem_size hx; omega)
      obtain ⟨k, rfl⟩ : ∃ k', k = k' + 1 := ⟨k - 1, by omega⟩
      rw [l54_0_eq]
      by_cases hi : 0 < l.length
      · have := hΓ (l.getD 0 default) (getD_mem l 0 hi)
        unfold T.v at this
        rw [show (0 : Int) = Int.ofNat 0 from rfl, lt_yes 0 _ hi, cond_true, q54_1_eq, T.rows_len, in_range 0 _ hi, cond_true, tn, T.rows_at l 0 hi]
        simp only [getD0, getD1]
        have hd := closedTs_drop l 0 hi
        rw [List.drop_zero] at hd
        rw [this, g_a2IL2, q54_2_eq, wrap_up 0 (by omega), ← T.rows_one, hd]
        exact L54 (k + 1) κ l (k + 1) (by omega) hΓ k 1 [closedT (l.getD 0 default)] (by simp) (by omega)
      · have hl0 : l = [] := List.eq_nil_of_length_eq_zero (by omega)
        subst hl0
        rw [show (0 : Int) = Int.ofNat 0 from rfl, lt_no 0 _ (by simp), cond_false, q54_3_eq, closedTs]
        rfl
/-! ### shape -/
def Res53 (x : Option T) (o : Option Out) : Prop := ∃ t' : T, o = some (R (pairV t' x.isSome)) ∧ ∀ t, x = some t → t' = t
theorem Res53.fail {t' : T} : Res53 none (some (R (pairV t' false))) := ⟨t', rfl, fun t h => by cases h⟩
theorem Res53.ok {t : T} : Res53 (some t) (some (R (pairV t true))) := ⟨t, rfl, fun t' h => by cases h; rfl⟩
theorem shapes_drop (f : W → Option T) (l : List W) (i : Nat) (h : i < l.length) : shapes f (l.drop i) = match f (l.getD i default) with
    | none => none
    | some t => (shapes f (l.drop (i + 1))).map (t :: ·) := by
  rw [drop_getD l i h, shapes]; rfl
theorem meets_drop (f : W → Option T) (l : List W) (i : Nat) (a : T) (h : i < l.length) : meets f (l.drop i) a = match f (l.getD i default) with
    | none => none
    | some t => match joinT a t with
      | none => none
      | some x => meets f (l.drop (i + 1)) x := by
  rw [drop_getD l i h, meets]; rfl
theorem L53a (k n : Nat) (l : List W) (n2 : Nat) (hn : n ≤ 1000) (hl : l.length ≤ 4) (hΓ : ∀ a ∈ l, Res53 (shapeW n a) (Ak k 53 [a.v, iV (n : Nat)] [])) :
    ∀ (m i : Nat) (acc : List T), acc.length ≤ i → l.length - i < m → Res53 ((shapes (shapeW n) (l.drop i)).map fun r => T.mk 3 (acc ++ r)) (l53_0_v1 m (Ak k) n2 (n + 1 : Nat) (W.rows l) (Int.ofNat l.length) (Int.ofNat i) 0 3 (T.rows acc)) := by
  intro m
  induction m with
  | zero => intro i acc _ h; omega
  | succ m ih =>
    intro i acc ha h
    rw [l53_0_v1_eq]
    by_cases hi : i < l.length
    · obtain ⟨t', ho, he⟩ := hΓ (l.getD i default) (getD_mem l i hi)
      unfold W.v pairV at ho
      rw [lt_yes i _ hi, cond_true, q53_0_v1_eq, W.rows_len, in_range i _ hi, cond_true, tn, W.rows_at l i hi, wrap_in _ (by omega) (by omega), show ((n + 1 : Nat) : Int) - 1 = (n : Int) by omega]
      simp only [getD0, getD1, getD2]
      rw [ho, T.v, g_t2a2IL2oB, shapes_drop _ l i hi]
      cases hj : shapeW n (l.getD i default) with
      | none => exact Res53.fail (t' := .mk 3 acc)
      | some x =>
        obtain rfl := he x hj
        rw [Option.isSome_some, Bool.not_true, cond_false, q53_1_v1_eq, T.rows_len, ble_t (by simp only [List.length_cons, List.length_nil]; omega)]
        simp only [Bool.and_self, cond_true]
        rw [q53_2_eq, wrap_up i (by omega), ← T.rows_one, ← T.rows_app]
        have := ih (i + 1) (acc ++ [t']) (by rw [List.length_append, List.length_cons, List.length_nil]; omega) (by omega)
        cases hs : shapes (shapeW n) (l.drop (i + 1)) with
        | none => rw [hs] at this; exact this
        | some r =>
          rw [hs] at this
          simp only [Option.map_some, List.append_assoc, List.singleton_append] at this ⊢
          exact this
    · rw [lt_no i _ (by omega), cond_false, q53_3_v1_eq, List.drop_eq_nil_of_le (by omega), shapes]
      simp only [Option.map_some, List.append_nil]
      exact Res53.ok (t := .mk 3 acc)
theorem joinT_size : ∀ (a b c : T), joinT a b = some c → c.size ≤ a.size + b.size := by
  suffices ∀ n, ∀ a b c : T, a.size ≤ n → joinT a b = some c → c.size ≤ a.size + b.size from fun a b c => this _ a b c (Nat.le_refl _)
  intro n
  induction n with
  | zero => intro a b c h; have := a.size_pos; omega
  | succ n ih =>
    intro a b c h hj
    obtain ⟨k, l⟩ := a
    obtain ⟨k', l'⟩ := b
    rw [joinT] at hj
    split at hj
    · cases hj; have := T.size_pos (T.mk k l); omega
    · split at hj
      · cases hj; have := T.size_pos (T.mk k' l'); omega
      · split at hj
        · cases hj
        · rw [Option.map_eq_some_iff] at hj
          obtain ⟨r, hr, rfl⟩ := hj
          have key : ∀ (l l' r : List T), T.sizes l ≤ n → joinTs l l' = some r → T.sizes r ≤ T.sizes l + T.sizes l' := by
            intro l
            induction l with
            | nil => intro l' r _ h; rw [joinTs] at h; cases h; rw [T.sizes]; omega
            | cons a l ih2 =>
              intro l' r hs h
              cases l' with
              | nil => rw [joinTs] at h; cases h
              | cons b l' =>
                rw [joinTs] at h
                split at h
                · cases h
                · rename_i x hx
                  rw [Option.map_eq_some_iff] at h
                  obtain ⟨r', hr', rfl⟩ := h
                  rw [T.sizes] at hs
                  have h1 := ih a b x (by omega) hx
                  have h2 := ih2 l' r' (by omega) hr'
                  rw [T.sizes, T.sizes, T.sizes]
                  omega
          rw [T.size] at h
          have := key l l' r (by omega) hr
          rw [T.size, T.size, T.size]
          omega
theorem shapeW_size : ∀ (n : Nat) (v : W) (t : T), shapeW n v = some t → t.size ≤ 2 * v.size
  | 0, _, _, h => by cases h
  | n + 1, .mk k m vs, t, h => by
    have hs : ∀ (l : List W) (r : List T), shapes (shapeW n) l = some r → T.sizes r ≤ 2 * W.sizes l := by
      intro l
      induction l with
      | nil => intro r h; cases h; rw [T.sizes]; omega
      | cons v l ih =>
        intro r h
        unfold shapes at h
        split at h
        · cases h
        · rename_i t ht
          rw [Option.map_eq_some_iff] at h
          obtain ⟨r', hr, rfl⟩ := h
          have h1 := shapeW_size n v t ht
          have h2 := ih r' hr
          rw [T.sizes, W.sizes]; omega
    have hm : ∀ (l : List W) (a x : T), meets (shapeW n) l a = some x → x.size ≤ a.size + 2 * W.sizes l := by
      intro l
      induction l with
      | nil => intro a x h; cases h; rw [W.sizes]; omega
      | cons v l ih =>
        intro a x h
        unfold meets at h
        split at h
        · cases h
        · rename_i t ht
          split at h
          · cases h
          · rename_i y hy
            have h1 := shapeW_size n v t ht
            have h2 := joinT_size _ _ _ hy
            have h3 := ih y x h
            rw [W.sizes]; omega
    unfold shapeW at h
    split at h
    · split at h
      · cases h; rw [T.size, T.sizes, W.size]; omega
      · cases h
    · split at h
      · rw [Option.map_eq_some_iff] at h
        obtain ⟨r, hr, rfl⟩ := h
        have := hs vs r hr
        rw [T.size, W.size]; omega
      · split at h
        · rw [Option.map_eq_some_iff] at h
          obtain ⟨x, hx, rfl⟩ := h
          have := hm vs _ x hx
          have e : (T.mk 0 []).size = 1 := by rw [T.size, T.sizes]
          rw [T.size, T.sizes, T.sizes, W.size]; omega
        · cases h
end
section
set_option linter.unusedVariables false
set_option linter.unusedSimpArgs false
open Go Go.RowKit
theorem joinT_hole (l : List T) (t : T) : joinT (.mk 0 l) t = some t := by
  cases t
  rw [joinT, if_pos rfl]
theorem L53b (k n : Nat) (l : List W) (n2 S : Nat) (hn : n ≤ 1000) (hl : l.length ≤ 32) (hS : S ≤ 1000000) (hk : S + 3 ≤ k) (hΓ : ∀ a ∈ l, Res53 (shapeW n a) (Ak k 53 [a.v, iV (n : Nat)] [])) :
    ∀ (m i : Nat) (a : T), a.size + 2 * W.sizes (l.drop i) ≤ S → l.length - i < m → Res53 ((meets (shapeW n) (l.drop i) a).map fun x => T.mk 4 [x]) (l53_1_v1 m (Ak k) n2 (n + 1 : Nat) (W.rows l) (Int.ofNat l.length) (Int.ofNat i) 0 4 a.k (T.rows a.l)) := by
  intro m
  induction m with
  | zero => intro i a _ h; omega
  | succ m ih =>
    intro i a ha h
    rw [l53_1_v1_eq]
    by_cases hi : i < l.length
    · obtain ⟨t', ho, he⟩ := hΓ (l.getD i default) (getD_mem l i hi)
      unfold W.v pairV at ho
      rw [lt_yes i _ hi, cond_true, q53_4_v1_eq, W.rows_len, in_range i _ hi, cond_true, tn, W.rows_at l i hi, wrap_in _ (by omega) (by omega), show ((n + 1 : Nat) : Int) - 1 = (n : Int) by omega]
      simp only [getD0, getD1, getD2]
      rw [ho, T.v, g_t2a2IL2oB, meets_drop _ l i a hi]
      rw [drop_getD l i hi, W.sizes] at ha
      cases hj : shapeW n (l.getD i default) with
      | none =>
        rw [Option.isSome_none, cond_false, q53_5_eq]
        exact Res53.fail (t' := .mk 4 [])
      | some x =>
        obtain rfl := he x hj
        have z1 := shapeW_size _ _ _ hj
        have h75 := C75 k a t' (by omega) (by omega)
        unfold T.v pairV at h75
        rw [Option.isSome_some, cond_true, h75, T.v, g_t2a2IL2oB, q53_5_eq]
        cases hx : joinT a t' with
        | none =>
          simp only [hx, Option.isSome_none, Bool.not_false, cond_true]
          exact Res53.fail (t' := .mk 4 [])
        | some y =>
          have z2 := joinT_size _ _ _ hx
          rw [Option.isSome_some, Bool.not_true, cond_false, q53_6_eq, wrap_up i (by omega)]
          simp only [hx, Option.getD_some]
          exact ih (i + 1) y (by omega) (by omega)
    · rw [lt_no i _ (by omega), cond_false, q53_7_v1_eq, List.drop_eq_nil_of_le (by omega), meets]
      refine Eq.subst (motive := fun r => Res53 _ (some (Out.mk true (V.tup [V.agg [X.d (D.int IntKind.i64 4), X.d (D.list 2 r)], V.one (X.d (D.bool true))]) D.junk [] 0))) (T.rows_one a) (Res53.ok (t := .mk 4 [a]))
theorem C53 : ∀ (n k : Nat) (v : W), v.size ≤ 100000 → n + 250000 ≤ k → n ≤ 1000 → Res53 (shapeW n v) (Ak k 53 [v.v, iV (n : Nat)] [])
  | _, 0, _, _, h, _ => by omega
  | 0, k + 1, .mk κ m vs, hv, hk, hn => by
    have hc := call53 k κ m (W.rows vs) ((0 : Nat) : Int)
    rw [e53_eq] at hc
    rw [show Ak (k + 1) 53 [(W.mk κ m vs).v, iV ((0 : Nat) : Int)] [] = _ from hc, decide_eq_true (show ((0 : Nat) : Int) < 1 by omega), cond_true]
    exact Res53.fail (t' := .mk κ [])
  | n + 1, k + 1, .mk κ m vs, hv, hk, hn => by
    have hc := call53 k κ m (W.rows vs) ((n + 1 : Nat) : Int)
    rw [e53_eq] at hc
    rw [show Ak (k + 1) 53 [(W.mk κ m vs).v, iV ((n + 1 : Nat) : Int)] [] = _ from hc, decide_eq_false (show ¬ ((n + 1 : Nat) : Int) < 1 by omega), cond_false, W.rows_len]
    clear hc
    have hsz : (W.mk κ m vs).size = 1 + W.sizes vs := by rw [W.size]
    have hlen := W.sizes_len vs
    simp only [int_eqb]
    obtain ⟨k, rfl⟩ : ∃ k', k = k' + 1 := ⟨k - 1, by omega⟩
    rw [shapeW]
    have hΓ : ∀ a ∈ vs, Res53 (shapeW n a) (Ak (k + 1) 53 [a.v, iV (n : Nat)] []) := fun x hx => C53 n (k + 1) x (by have := W.mem_size hx; omega) (by omega) (by omega)
    have basic : ∀ hκ : κ = 1 ∨ κ = 2, Res53 (if hasT 1 (.mk κ []) (.mk κ m vs) = true then some (T.mk κ []) else none) (r_oB (Ak (k + 1) 51 [V.agg [X.d (D.int IntKind.i64 κ), X.nilL 2], V.agg [X.d (D.int IntKind.i64 κ), X.d (D.int IntKind.i64 m), X.d (D.list 3 (W.rows vs))]] []) [] fun c1_ => some (Out.mk true (V.tup [V.agg [X.d (D.int IntKind.i64 κ), X.d (D.list 2 [])], V.one (X.d (D.bool c1_))]) D.junk [] 0)) := by
      intro hκ
      have h51 : Ak (k + 1) 51 [V.agg [X.d (D.int IntKind.i64 κ), X.nilL 2], V.agg [X.d (D.int IntKind.i64 κ), X.d (D.int IntKind.i64 m), X.d (D.list 3 (W.rows vs))]] [] = _ := C51n k κ m vs hκ
      rw [h51, g_oB]
      cases hasT 1 (.mk κ []) (.mk κ m vs) with
      | true => exact Res53.ok (t := .mk κ [])
      | false => exact Res53.fail (t' := .mk κ [])
    by_cases h1 : κ = 1
    · rw [decide_eq_true h1, cond_true, if_pos (.inl h1)]
      exact basic (.inl h1)
    · rw [decide_eq_false h1, cond_false]
      by_cases h2 : κ = 2
      · rw [decide_eq_true h2, cond_true, if_pos (.inr h2)]
        exact basic (.inr h2)
      · rw [decide_eq_false h2, cond_false, if_neg (show ¬ (κ = 1 ∨ κ = 2) from fun q => q.elim h1 h2)]
        clear basic
        rw [q53_8_eq]
        have hfail : Res53 none (some (Out.mk true (V.tup [V.agg [X.d (D.int IntKind.i64 κ), X.d (D.list 2 [])], V.one (X.d (D.bool false))]) D.junk [] 0)) := Res53.fail (t' := .mk κ [])
        by_cases h3 : κ = 3
        · have h4 : ¬ κ = 4 := by omega
          rw [decide_eq_true h3, cond_true, decide_eq_false h4]
          simp only [cond_false]
          rw [if_neg (show ¬ (κ = 4 ∧ m = 0 ∧ vs.length ≤ 32) from fun q => h4 q.1)]
          by_cases hm : m = 0
          · rw [decide_eq_true hm, cond_true]
            by_cases hl2 : 2 ≤ vs.length
            · rw [decide_eq_true (show Int.ofNat vs.length ≥ 2 by simp only [Int.ofNat_eq_natCast]; omega), cond_true]
              by_cases hl4 : vs.length ≤ 4
              · rw [decide_eq_true (show Int.ofNat vs.length ≤ 4 by simp only [Int.ofNat_eq_natCast]; omega), cond_true, if_pos ⟨h3, hm, hl2, hl4⟩, l53_0_eq]
                subst h3
                have hi : 0 < vs.length := by omega
                obtain ⟨t', ho, he⟩ := hΓ (vs.getD 0 default) (getD_mem vs 0 hi)
                unfold W.v pairV at ho
                have hd := shapes_drop (shapeW n) vs 0 hi
                rw [List.drop_zero] at hd
                rw [show (0 : Int) = Int.ofNat 0 from rfl, lt_yes 0 _ hi, cond_true, q53_0_eq, W.rows_len, in_range 0 _ hi, cond_true, tn, W.rows_at vs 0 hi, wrap_in _ (by omega) (by omega), show ((n + 1 : Nat) : Int) - 1 = (n : Int) by omega]
                simp only [getD0, getD1, getD2]
                rw [ho, T.v, g_t2a2IL2oB, hd]
                cases hj : shapeW n (vs.getD 0 default) with
                | none => exact Res53.fail (t' := .mk 3 [])
                | some x =>
                  obtain rfl := he x hj
                  rw [Option.isSome_some, Bool.not_true, cond_false, q53_1_eq, q53_2_eq, wrap_up 0 (by omega), ← T.rows_one]
                  have := L53a (k + 1) n vs (k + 1) (by omega) hl4 hΓ k 1 [t'] (by simp) (by omega)
                  cases hs : shapes (shapeW n) (vs.drop 1) with
                  | none => rw [hs] at this; exact this
                  | some r =>
                    rw [hs] at this
                    exact this
              · rw [decide_eq_false (show ¬ Int.ofNat vs.length ≤ 4 by simp only [Int.ofNat_eq_natCast]; omega), cond_false, if_neg (fun q => hl4 q.2.2.2)]
                exact hfail
            · rw [decide_eq_false (show ¬ Int.ofNat vs.length ≥ 2 by simp only [Int.ofNat_eq_natCast]; omega), cond_false, if_neg (fun q => hl2 q.2.2.1)]
              exact hfail
          · rw [decide_eq_false hm, cond_false, if_neg (fun q => hm q.2.1)]
            exact hfail
        · rw [decide_eq_false h3, cond_false, if_neg (fun q => h3 q.1)]
          by_cases h4 : κ = 4
          · rw [decide_eq_true h4, cond_true]
            by_cases hm : m = 0
            · rw [decide_eq_true hm, cond_true]
              by_cases hl : vs.length ≤ 32
              · rw [decide_eq_true (show Int.ofNat vs.length ≤ 32 by simp only [Int.ofNat_eq_natCast]; omega), cond_true, if_pos ⟨h4, hm, hl⟩, l53_1_eq]
                subst h4
                by_cases hi : 0 < vs.length
                · obtain ⟨t', ho, he⟩ := hΓ (vs.getD 0 default) (getD_mem vs 0 hi)
                  unfold W.v pairV at ho
                  have hd := meets_drop (shapeW n) vs 0 (.mk 0 []) hi
                  rw [List.drop_zero] at hd
                  rw [show decide ((0 : Int) < Int.ofNat vs.length) = true from lt_yes 0 _ hi, cond_true, q53_4_eq, W.rows_len, show (decide ((0 : Int) ≤ 0) && decide ((0 : Int) < Int.ofNat vs.length)) = true from in_range 0 _ hi, cond_true, show Int.toNat 0 = 0 from rfl, W.rows_at vs 0 hi, wrap_in _ (by omega) (by omega), show ((n + 1 : Nat) : Int) - 1 = (n : Int) by omega]
                  simp only [getD0, getD1, getD2]
                  rw [ho, T.v, g_t2a2IL2oB, hd]
                  cases hj : shapeW n (vs.getD 0 default) with
                  | none =>
                    rw [Option.isSome_none, cond_false, q53_5_v1_eq]
                    exact Res53.fail (t' := .mk 4 [])
                  | some x =>
                    obtain rfl := he x hj
                    have z1 := shapeW_size _ _ _ hj
                    have z2 : W.sizes vs = (vs.getD 0 default).size + W.sizes (vs.drop 1) := by
                      have := drop_getD vs 0 hi
                      rw [List.drop_zero] at this
                      exact (congrArg W.sizes this).trans (by rw [W.sizes])
                    have h75 := C75n k t'
                    unfold T.v pairV at h75
                    rw [Option.isSome_some, cond_true, h75, T.v, g_t2a2IL2oB, q53_5_eq, Bool.not_true, cond_false, q53_6_eq, show IntKind.wrap .i64 (0 + 1) = Int.ofNat 1 from wrap_up 0 (by omega)]
                    simp only [joinT_hole, hj]
                    exact L53b (k + 1) n vs (k + 1) 200100 (by omega) hl (by omega) (by omega) hΓ k 1 t' (by omega) (by omega)
                · have hl0 : vs = [] := List.eq_nil_of_length_eq_zero (by omega)
                  subst hl0
                  rw [show decide ((0 : Int) < Int.ofNat ([] : List W).length) = false from lt_no 0 _ (by simp), cond_false, q53_7_eq, meets]
                  exact Res53.ok (t := .mk 4 [.mk 0 []])
              · rw [decide_eq_false (show ¬ Int.ofNat vs.length ≤ 32 by simp only [Int.ofNat_eq_natCast]; omega), cond_false, if_neg (fun q => hl q.2.2)]
                exact hfail
            · rw [decide_eq_false hm, cond_false, if_neg (fun q => hm q.2.1)]
              exact hfail
          · rw [decide_eq_false h4, cond_false, if_neg (fun q => h4 q.1)]
            exact hfail
theorem C26 (k : Nat) (v : W) (hv : v.size ≤ 100000) (hk : 300000 ≤ k) : Ak k 26 [v.v] [] = some (R (bV (rightP v))) := by
  obtain ⟨k, rfl⟩ : ∃ k', k = k' + 1 := ⟨k - 1, by omega⟩
  refine (call26 k v.k v.n (W.rows v.l)).trans ?_
  obtain ⟨t', ho, he⟩ := C53 40 k v hv (by omega) (by omega)
  have h28 := C28 k v (by omega) (by omega)
  unfold W.v at h28
  unfold W.v iV pairV at ho
  rw [e26_eq]
  unfold rightP
  rw [show ((40 : Nat) : Int) = 40 from rfl] at ho
  rw [ho, T.v, g_t2a2IL2oB]
  cases hj : shapeW 40 v with
  | none => rfl
  | some t =>
    obtain rfl := he t hj
    have z1 := shapeW_size _ _ _ hj
    have h54 := C54 k t' (by omega) (by omega)
    have h16 := C16 k (by omega) (closedT t')
    unfold T.v at h54 h16
    rw [Option.isSome_some, cond_true, h54, g_a2IL2, h16, g_oB]
    cases hd : deepT 40 (closedT t') with
    | false => simp only [hd]; rfl
    | true =>
      simp only [hd, cond_true, Bool.true_and]
      rw [h28, g_oI, cap_le]
end
section
set_option linter.unusedVariables false
set_option linter.unusedSimpArgs false
set_option maxRecDepth 1000000
open Go Go.RowKit
/-! ### fits -/
mutual
def fits : T → T → Prop
  | .mk k l, .mk k' l' => k = 0 ∨ (k = k' ∧ fitss l l')
def fitss : List T → List T → Prop
  | [], [] => True
  | a :: r, b :: s => fits a b ∧ fitss r s
  | _, _ => False
end
theorem fitss_len : ∀ {l s : List T}, fitss l s → l.length = s.length
  | [], [], _ => rfl
  | a :: r, b :: s, h => by rw [fitss] at h; simp [fitss_len h.2]
  | [], b :: s, h => by rw [fitss] at h; exact h.elim; all_goals simp
  | a :: r, [], h => by rw [fitss] at h; exact h.elim; all_goals simp
theorem fits_deep : ∀ (n : Nat) (x t : T), fits x t → deepT n t = true → deepT n (closedT x) = true
  | 0, x, t, _, h => by cases h
  | n + 1, .mk k l, .mk k' l', hf, hd => by
    rw [fits] at hf
    by_cases h0 : k = 0
    · rw [closedT, if_pos h0]; rfl
    · obtain ⟨rfl, hs⟩ := hf.resolve_left h0
      have hl := fitss_len hs
      have hall : ∀ (l l' : List T), fitss l l' → l'.all (deepT n) = true → l.all (fun t => deepT n (closedT t)) = true := by
        intro l
        induction l with
        | nil => intro l' _ _; rfl
        | cons a l ih =>
          intro l' hf hd
          cases l' with
          | nil => have := fitss_len hf; simp at this
          | cons b l' =>
            rw [fitss] at hf
            rw [List.all_cons, Bool.and_eq_true] at hd ⊢
            exact ⟨fits_deep n a b hf.1 hd.1, ih l' hf.2 hd.2⟩
      rw [deep_closed n k l h0]
      unfold deepT at hd
      by_cases h12 : k = 1 ∨ k = 2
      · rw [if_pos h12] at hd ⊢
        rw [List.isEmpty_iff_length_eq_zero] at hd ⊢
        omega
      · rw [if_neg h12] at hd ⊢
        by_cases h3 : k = 3
        · rw [if_pos h3] at hd ⊢
          rw [Bool.and_eq_true, Bool.and_eq_true] at hd ⊢
          rw [hl]
          exact ⟨hd.1, hall l l' hs hd.2⟩
        · rw [if_neg h3] at hd ⊢
          by_cases h4 : k = 4
          · rw [if_pos h4] at hd ⊢
            rw [Bool.and_eq_true] at hd ⊢
            rw [hl]
            exact ⟨hd.1, hall l l' hs hd.2⟩
          · rw [if_neg h4] at hd
            cases hd
mutual
theorem join_fits : ∀ (x y t : T), fits x t → fits y t → ∃ z, joinT x y = some z ∧ fits z t
  | .mk k l, .mk k' l', .mk k'' l'', h1, h2 => by
    rw [joinT]
    by_cases h0 : k = 0
    · rw [if_pos h0]; exact ⟨_, rfl, h2⟩
    · rw [if_neg h0]
      by_cases h0' : k' = 0
      · rw [if_pos h0']; exact ⟨_, rfl, h1⟩
      · rw [fits] at h1 h2
        obtain ⟨rfl, f1⟩ := h1.resolve_left h0
        obtain ⟨rfl, f2⟩ := h2.resolve_left h0'
        have e1 := fitss_len f1
        have e2 := fitss_len f2
        obtain ⟨r, hr, fr⟩ := joins_fits l l' l'' f1 f2
        rw [if_neg h0', if_neg (show ¬ (k' ≠ k' ∨ l.length ≠ l'.length) from fun q => q.elim (fun q => q rfl) (fun q => q (by omega))), hr]
        refine ⟨_, rfl, ?_⟩
        rw [fits]
        exact .inr ⟨rfl, fr⟩
theorem joins_fits : ∀ (l l' t : List T), fitss l t → fitss l' t → ∃ r, joinTs l l' = some r ∧ fitss r t
  | [], l', t, h1, h2 => ⟨[], by rw [joinTs], h1⟩
  | a :: l, [], t, h1, h2 => by have := fitss_len h1; have := fitss_len h2; simp at *; omega
  | a :: l, b :: l', [], h1, h2 => by have := fitss_len h1; simp at this
  | a :: l, b :: l', c :: t, h1, h2 => by
    rw [fitss] at h1 h2
    obtain ⟨z, hz, fz⟩ := join_fits a b c h1.1 h2.1
    obtain ⟨r, hr, fr⟩ := joins_fits l l' t h1.2 h2.2
    refine ⟨z :: r, ?_, ?_⟩
    · rw [joinTs, hz, hr]; rfl
    · rw [fitss]; exact ⟨fz, fr⟩
end
theorem has_shape : ∀ (n : Nat) (t : T) (v : W), deepT n t = true → hasT n t v = true → ∃ x, shapeW n v = some x ∧ fits x t
  | 0, _, _, h, _ => by cases h
  | n + 1, .mk k l, .mk k' m vs, hd, hh => by
    unfold hasT at hh
    rw [Bool.and_eq_true, decide_eq_true_eq] at hh
    obtain ⟨rfl, hh⟩ := hh
    unfold deepT at hd
    unfold shapeW
    by_cases h12 : k' = 1 ∨ k' = 2
    · rw [if_pos h12] at hd
      have hn : hasT 1 (.mk k' []) (.mk k' m vs) = true := by
        unfold hasT
        rw [decide_eq_true rfl, Bool.true_and]
        rcases h12 with rfl | rfl
        · exact hh
        · exact hh
      rw [if_pos h12, if_pos hn]
      refine ⟨_, rfl, ?_⟩
      obtain rfl : l = [] := List.isEmpty_iff.1 hd
      rw [fits, fitss]
      exact .inr ⟨rfl, trivial⟩
    · rw [if_neg h12] at hd
      rw [if_neg h12]
      rw [if_neg (fun q => h12 (.inl q)), if_neg (fun q => h12 (.inr q))] at hh
      by_cases h3 : k' = 3
      · rw [if_pos h3] at hd hh
        simp only [Bool.and_eq_true, decide_eq_true_eq] at hd hh
        have hl : vs.length = l.length := by
          refine Decidable.byContradiction fun q => ?_
          have := all2_len (hasT n) l vs (fun e => q e.symm)
          rw [this] at hh
          exact absurd hh.2 (by simp)
        have key : ∀ (l : List T) (vs : List W), l.all (deepT n) = true → all2 (hasT n) l vs = true → ∃ r, shapes (shapeW n) vs = some r ∧ fitss r l := by
          intro l
          induction l with
          | nil =>
            intro vs _ h
            cases vs with
            | nil => exact ⟨[], rfl, by rw [fitss]; trivial⟩
            | cons _ _ => cases h
          | cons a l ih =>
            intro vs hd h
            cases vs with
            | nil => cases h
            | cons v vs =>
              rw [all2, Bool.and_eq_true] at h
              rw [List.all_cons, Bool.and_eq_true] at hd
              obtain ⟨x, hx, fx⟩ := has_shape n a v hd.1 h.1
              obtain ⟨r, hr, fr⟩ := ih vs hd.2 h.2
              refine ⟨x :: r, ?_, by rw [fitss]; exact ⟨fx, fr⟩⟩
              rw [shapes, hx, hr]; rfl
        obtain ⟨r, hr, fr⟩ := key l vs hd.2 hh.2
        rw [if_pos ⟨h3, hh.1, by omega, by omega⟩, hr]
        refine ⟨_, rfl, ?_⟩
        rw [fits]
        exact .inr ⟨h3.symm, fr⟩
      · rw [if_neg h3] at hd hh
        by_cases h4 : k' = 4
        · rw [if_pos h4] at hd
          simp only [Bool.and_eq_true, decide_eq_true_eq] at hd hh
          obtain ⟨a, rfl⟩ : ∃ a, l = [a] := by
            match l, hd.1 with
            | [a], _ => exact ⟨a, rfl⟩
          have hda : deepT n a = true := by simpa using hd.2
          have key : ∀ (vs : List W) (acc : T), fits acc a → vs.all (hasT n a) = true → ∃ x, meets (shapeW n) vs acc = some x ∧ fits x a := by
            intro vs
            induction vs with
            | nil => intro acc hf _; exact ⟨acc, rfl, hf⟩
            | cons v vs ih =>
              intro acc hf h
              rw [List.all_cons, Bool.and_eq_true] at h
              obtain ⟨x, hx, fx⟩ := has_shape n a v hda h.1
              obtain ⟨y, hy, fy⟩ := join_fits acc x a hf fx
              obtain ⟨z, hz, fz⟩ := ih y fy h.2
              refine ⟨z, ?_, fz⟩
              rw [meets, hx]
              show (match joinT acc x with | none => none | some x => meets (shapeW n) vs x) = _
              rw [hy]
              exact hz
          obtain ⟨x, hx, fx⟩ := key vs (.mk 0 []) (by cases a; rw [fits]; exact .inl rfl) hh.2
          rw [if_neg (fun q => h3 q.1), if_pos ⟨h4, hh.1.1, hh.1.2⟩, hx]
          refine ⟨_, rfl, ?_⟩
          rw [fits, fitss, fitss]
          exact .inr ⟨h4.symm, fx, trivial⟩
        · rw [if_neg h4] at hd
          cases hd
theorem has_right (t : T) (v : W) (h : hasP t v = true) : rightP v = true := by
  unfold hasP at h
  rw [Bool.and_eq_true, Bool.and_eq_true] at h
  obtain ⟨x, hx, fx⟩ := has_shape 40 t v h.1.1 h.1.2
  unfold rightP
  rw [hx]
  show (deepT 40 (closedT x) && decide (v.size ≤ 1000)) = true
  rw [fits_deep 40 x t fx h.1.1, h.2]
  rfl
end
end Go.Proofs.YtkpdofiflhjahaaDoor.Ps
