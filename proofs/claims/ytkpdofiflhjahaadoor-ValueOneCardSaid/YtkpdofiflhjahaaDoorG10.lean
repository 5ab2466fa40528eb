/- Values: what has a type has its shape; one type for what is nowhere empty; the law. -/
import Derived.Test.YtkpdofiflhjahaaDoorF11
import Derived.Test.YtkpdofiflhjahaaDoorF3
import Derived.Test.YtkpdofiflhjahaaDoorPvO
import Derived.Test.YtkpdofiflhjahaaDoorPvL10
import Derived.Test.YtkpdofiflhjahaaDoorVk
namespace Go.Proofs.YtkpdofiflhjahaaDoor.Ps
set_option linter.unusedVariables false
set_option linter.unusedSimpArgs false
set_option maxRecDepth 1000000
open Go Go.RowKit
mutual
def holeW : W → Bool
  | .mk k _ l => (decide (k = 4) && l.isEmpty) || holeWs l
def holeWs : List W → Bool
  | [] => false
  | a :: r => holeW a || holeWs r
end
theorem holeWs_drop (l : List W) (i : Nat) (h : i < l.length) : holeWs (l.drop i) = (holeW (l.getD i default) || holeWs (l.drop (i + 1))) := by
  rw [drop_getD l i h, holeWs]
theorem L39 (k : Nat) (l : List W) (n2 : Nat) (z1 z2 : Int) (hl : l.length ≤ 1000000) (hΓ : ∀ a ∈ l, Ak k 39 [a.v] [] = some (R (bV (holeW a)))) :
    ∀ (m i : Nat), l.length - i < m → l39_0 m (Ak k) n2 (Int.ofNat i) z1 z2 (W.rows l) = some (R (bV (holeWs (l.drop i)))) := by
  intro m
  induction m with
  | zero => intro i h; omega
  | succ m ih =>
    intro i h
    rw [l39_0_eq, W.rows_len]
    by_cases hi : i < l.length
    · have := hΓ (l.getD i default) (getD_mem l i hi)
      unfold W.v at this
      rw [lt_yes i _ hi, cond_true, q39_1_eq, W.rows_len, in_range i _ hi, cond_true, tn, W.rows_at l i hi]
      simp only [getD0, getD1, getD2]
      rw [this, g_oB, holeWs_drop l i hi]
      cases holeW (l.getD i default) with
      | true => rfl
      | false => rw [cond_false, q39_2_eq, wrap_up i (by omega), ih (i + 1) (by omega), Bool.false_or]
    · rw [lt_no i _ (by omega), cond_false, q39_3_eq, List.drop_eq_nil_of_le (by omega)]
      rfl
theorem C39 : ∀ (k : Nat) (a : W), a.size ≤ 1000000 → a.size + 3 ≤ k → Ak k 39 [a.v] [] = some (R (bV (holeW a)))
  | 0, a, _, h => by omega
  | k + 1, .mk κ n l, hs, hk => by
    refine (call39 k κ n (W.rows l)).trans ?_
    have hsz : (W.mk κ n l).size = 1 + W.sizes l := by rw [W.size]
    have hlen := W.sizes_len l
    rw [e39_eq, holeW, W.rows_len, q39_0_eq]
    have hΓ : ∀ a ∈ l, Ak k 39 [a.v] [] = some (R (bV (holeW a))) := fun x hx => C39 k x (by have := W.mem_size hx; omega) (by have := W.mem_size hx; omega)
    have hL := L39 k l k κ n (by omega) hΓ k 0 (by omega)
    rw [List.drop_zero] at hL
    rw [show l39_0 k (Ak k) k 0 κ n (W.rows l) = _ from hL, int_eqb, int_eqb]
    by_cases h4 : κ = 4
    · rw [decide_eq_true h4, cond_true, Bool.true_and]
      cases l with
      | nil => rfl
      | cons x r =>
        rw [decide_eq_false (show ¬ Int.ofNat (x :: r).length = 0 by simp only [Int.ofNat_eq_natCast, List.length_cons]; omega), cond_false]
        rfl
    · rw [decide_eq_false h4, cond_false, Bool.false_and, Bool.false_or]
/-! ### fits -/
mutual
def fits : T → T → Prop
  | .mk k l, .mk k' l' => k = 0 ∨ (k = k' ∧ fitss l l')
def fitss : List T → List T → Prop
  | [], [] => True
  | a :: r, b :: s => fits a b ∧ fitss r s
  | _, _ => False
end
theorem fitss_len : ∀ {l s : List T}, fitss l s → l.length = s.length
  | [], [], _ => rfl
  | a :: r, b :: s, h => by rw [fitss] at h; simp [fitss_len h.2]
  | [], b :: s, h => by rw [fitss] at h; exact h.elim; all_goals simp
  | a :: r, [], h => by rw [fitss] at h; exact h.elim; all_goals simp
theorem fits_deep : ∀ (n : Nat) (x t : T), fits x t → deepT n t = true → deepT n (closedT x) = true
  | 0, x, t, _, h => by cases h
  | n + 1, .mk k l, .mk k' l', hf, hd => by
    rw [fits] at hf
    by_cases h0 : k = 0
    · rw [closedT, if_pos h0]; rfl
    · obtain ⟨rfl, hs⟩ := hf.resolve_left h0
      have hl := fitss_len hs
      have hall : ∀ (l l' : List T), fitss l l' → l'.all (deepT n) = true → l.all (fun t => deepT n (closedT t)) = true := by
        intro l
        induction l with
        | nil => intro l' _ _; rfl
        | cons a l ih =>
          intro l' hf hd
          cases l' with
          | nil => have := fitss_len hf; simp at this
          | cons b l' =>
            rw [fitss] at hf
            rw [List.all_cons, Bool.and_eq_true] at hd ⊢
            exact ⟨fits_deep n a b hf.1 hd.1, ih l' hf.2 hd.2⟩
      rw [deep_closed n k l h0]
      unfold deepT at hd
      by_cases h12 : k = 1 ∨ k = 2
      · rw [if_pos h12] at hd ⊢
        rw [List.isEmpty_iff_length_eq_zero] at hd ⊢
        omega
      · rw [if_neg h12] at hd ⊢
        by_cases h3 : k = 3
        · rw [if_pos h3] at hd ⊢
          rw [Bool.and_eq_true, Bool.and_eq_true] at hd ⊢
          rw [hl]
          exact ⟨hd.1, hall l l' hs hd.2⟩
        · rw [if_neg h3] at hd ⊢
          by_cases h4 : k = 4
          · rw [if_pos h4] at hd ⊢
            rw [Bool.and_eq_true] at hd ⊢
            rw [hl]
            exact ⟨hd.1, hall l l' hs hd.2⟩
          · rw [if_neg h4] at hd
            cases hd
mutual
theorem join_fits : ∀ (x y t : T), fits x t → fits y t → ∃ z, joinT x y = some z ∧ fits z t
  | .mk k l, .mk k' l', .mk k'' l'', h1, h2 => by
    rw [joinT]
    by_cases h0 : k = 0
    · rw [if_pos h0]; exact ⟨_, rfl, h2⟩
    · rw [if_neg h0]
      by_cases h0' : k' = 0
      · rw [if_pos h0']; exact ⟨_, rfl, h1⟩
      · rw [fits] at h1 h2
        obtain ⟨rfl, f1⟩ := h1.resolve_left h0
        obtain ⟨rfl, f2⟩ := h2.resolve_left h0'
        have e1 := fitss_len f1
        have e2 := fitss_len f2
        obtain ⟨r, hr, fr⟩ := joins_fits l l' l'' f1 f2
        rw [if_neg h0', if_neg (show ¬ (k' ≠ k' ∨ l.length ≠ l'.length) from fun q => q.elim (fun q => q rfl) (fun q => q (by omega))), hr]
        refine ⟨_, rfl, ?_⟩
        rw [fits]
        exact .inr ⟨rfl, fr⟩
theorem joins_fits : ∀ (l l' t : List T), fitss l t → fitss l' t → ∃ r, joinTs l l' = some r ∧ fitss r t
  | [], l', t, h1, h2 => ⟨[], by rw [joinTs], h1⟩
  | a :: l, [], t, h1, h2 => by have := fitss_len h1; have := fitss_len h2; simp at *; omega
  | a :: l, b :: l', [], h1, h2 => by have := fitss_len h1; simp at this
  | a :: l, b :: l', c :: t, h1, h2 => by
    rw [fitss] at h1 h2
    obtain ⟨z, hz, fz⟩ := join_fits a b c h1.1 h2.1
    obtain ⟨r, hr, fr⟩ := joins_fits l l' t h1.2 h2.2
    refine ⟨z :: r, ?_, ?_⟩
    · rw [joinTs, hz, hr]; rfl
    · rw [fitss]; exact ⟨fz, fr⟩
end
theorem has_shape : ∀ (n : Nat) (t : T) (v : W), deepT n t = true → hasT n t v = true → ∃ x, shapeW n v = some x ∧ fits x t
  | 0, _, _, h, _ => by cases h
  | n + 1, .mk k l, .mk k' m vs, hd, hh => by
    unfold hasT at hh
    rw [Bool.and_eq_true, decide_eq_true_eq] at hh
    obtain ⟨rfl, hh⟩ := hh
    unfold deepT at hd
    unfold shapeW
    by_cases h12 : k' = 1 ∨ k' = 2
    · rw [if_pos h12] at hd
      have hn : hasT 1 (.mk k' []) (.mk k' m vs) = true := by
        unfold hasT
        rw [decide_eq_true rfl, Bool.true_and]
        rcases h12 with rfl | rfl
        · exact hh
        · exact hh
      rw [if_pos h12, if_pos hn]
      refine ⟨_, rfl, ?_⟩
      obtain rfl : l = [] := List.isEmpty_iff.1 hd
      rw [fits, fitss]
      exact .inr ⟨rfl, trivial⟩
    · rw [if_neg h12] at hd
      rw [if_neg h12]
      rw [if_neg (fun q => h12 (.inl q)), if_neg (fun q => h12 (.inr q))] at hh
      by_cases h3 : k' = 3
      · rw [if_pos h3] at hd hh
        simp only [Bool.and_eq_true, decide_eq_true_eq] at hd hh
        have hl : vs.length = l.length := by
          refine Decidable.byContradiction fun q => ?_
          have := all2_len (hasT n) l vs (fun e => q e.symm)
          rw [this] at hh
          exact absurd hh.2 (by simp)
        have key : ∀ (l : List T) (vs : List W), l.all (deepT n) = true → all2 (hasT n) l vs = true → ∃ r, shapes (shapeW n) vs = some r ∧ fitss r l := by
          intro l
          induction l with
          | nil =>
            intro vs _ h
            cases vs with
            | nil => exact ⟨[], rfl, by rw [fitss]; trivial⟩
            | cons _ _ => cases h
          | cons a l ih =>
            intro vs hd h
            cases vs with
            | nil => cases h
            | cons v vs =>
              rw [all2, Bool.and_eq_true] at h
              rw [List.all_cons, Bool.and_eq_true] at hd
              obtain ⟨x, hx, fx⟩ := has_shape n a v hd.1 h.1
              obtain ⟨r, hr, fr⟩ := ih vs hd.2 h.2
              refine ⟨x :: r, ?_, by rw [fitss]; exact ⟨fx, fr⟩⟩
              rw [shapes, hx, hr]; rfl
        obtain ⟨r, hr, fr⟩ := key l vs hd.2 hh.2
        rw [if_pos ⟨h3, hh.1, by omega, by omega⟩, hr]
        refine ⟨_, rfl, ?_⟩
        rw [fits]
        exact .inr ⟨h3.symm, fr⟩
      · rw [if_neg h3] at hd hh
        by_cases h4 : k' = 4
        · rw [if_pos h4] at hd
          simp only [Bool.and_eq_true, decide_eq_true_eq] at hd hh
          obtain ⟨a, rfl⟩ : ∃ a, l = [a] := by
            match l, hd.1 with
            | [a], _ => exact ⟨a, rfl⟩
          have hda : deepT n a = true := by simpa using hd.2
          have key : ∀ (vs : List W) (acc : T), fits acc a → vs.all (hasT n a) = true → ∃ x, meets (shapeW n) vs acc = some x ∧ fits x a := by
            intro vs
            induction vs with
            | nil => intro acc hf _; exact ⟨acc, rfl, hf⟩
            | cons v vs ih =>
              intro acc hf h
              rw [List.all_cons, Bool.and_eq_true] at h
              obtain ⟨x, hx, fx⟩ := has_shape n a v hda h.1
              obtain ⟨y, hy, fy⟩ := join_fits acc x a hf fx
              obtain ⟨z, hz, fz⟩ := ih y fy h.2
              refine ⟨z, ?_, fz⟩
              rw [meets, hx]
              show (match joinT acc x with | none => none | some x => meets (shapeW n) vs x) = _
              rw [hy]
              exact hz
          obtain ⟨x, hx, fx⟩ := key vs (.mk 0 []) (by cases a; rw [fits]; exact .inl rfl) hh.2
          rw [if_neg (fun q => h3 q.1), if_pos ⟨h4, hh.1.1, hh.1.2⟩, hx]
          refine ⟨_, rfl, ?_⟩
          rw [fits, fitss, fitss]
          exact .inr ⟨h4.symm, fx, trivial⟩
        · rw [if_neg h4] at hd
          cases hd
theorem has_right (t : T) (v : W) (h : hasP t v = true) : rightP v = true := by
  unfold hasP at h
  rw [Bool.and_eq_true, Bool.and_eq_true] at h
  obtain ⟨x, hx, fx⟩ := has_shape 40 t v h.1.1 h.1.2
  unfold rightP
  rw [hx]
  show (deepT 40 (closedT x) && decide (v.size ≤ 1000)) = true
  rw [fits_deep 40 x t fx h.1.1, h.2]
  rfl
/-! ### one type -/
theorem has_one : ∀ (n : Nat) (t s : T) (v : W), deepT n t = true → deepT n s = true → hasT n t v = true → hasT n s v = true → holeW v = false → t = s
  | 0, _, _, _, h, _, _, _, _ => by cases h
  | n + 1, .mk k l, .mk k2 l2, .mk k' m vs, hd, hd2, hh, hh2, hv => by
    unfold hasT at hh hh2
    rw [Bool.and_eq_true, decide_eq_true_eq] at hh hh2
    obtain ⟨rfl, hh⟩ := hh
    obtain ⟨rfl, hh2⟩ := hh2
    unfold deepT at hd hd2
    unfold holeW at hv
    rw [Bool.or_eq_false_iff] at hv
    by_cases h12 : k' = 1 ∨ k' = 2
    · rw [if_pos h12] at hd hd2
      rw [List.isEmpty_iff.1 hd, List.isEmpty_iff.1 hd2]
    · rw [if_neg h12] at hd hd2
      rw [if_neg (fun q => h12 (.inl q)), if_neg (fun q => h12 (.inr q))] at hh hh2
      by_cases h3 : k' = 3
      · rw [if_pos h3] at hd hd2 hh hh2
        simp only [Bool.and_eq_true] at hd hd2 hh hh2
        have key : ∀ (l l2 : List T) (vs : List W), l.all (deepT n) = true → l2.all (deepT n) = true → all2 (hasT n) l vs = true → all2 (hasT n) l2 vs = true → holeWs vs = false → l = l2 := by
          intro l
          induction l with
          | nil =>
            intro l2 vs _ _ h h2 _
            cases vs with
            | nil => cases l2 with
              | nil => rfl
              | cons _ _ => cases h2
            | cons _ _ => cases h
          | cons a l ih =>
            intro l2 vs hd hd2 h h2 hv
            cases vs with
            | nil => cases h
            | cons v vs =>
              cases l2 with
              | nil => cases h2
              | cons b l2 =>
                rw [all2, Bool.and_eq_true] at h h2
                rw [List.all_cons, Bool.and_eq_true] at hd hd2
                rw [holeWs, Bool.or_eq_false_iff] at hv
                rw [has_one n a b v hd.1 hd2.1 h.1 h2.1 hv.1, ih l2 vs hd.2 hd2.2 h.2 h2.2 hv.2]
        rw [key l l2 vs hd.2 hd2.2 hh.2 hh2.2 hv.2]
      · rw [if_neg h3] at hd hd2 hh hh2
        by_cases h4 : k' = 4
        · rw [if_pos h4] at hd hd2
          simp only [Bool.and_eq_true, decide_eq_true_eq] at hd hd2 hh hh2
          obtain ⟨a, rfl⟩ : ∃ a, l = [a] := by
            match l, hd.1 with
            | [a], _ => exact ⟨a, rfl⟩
          obtain ⟨b, rfl⟩ : ∃ b, l2 = [b] := by
            match l2, hd2.1 with
            | [b], _ => exact ⟨b, rfl⟩
          cases vs with
          | nil => rw [decide_eq_true h4] at hv; cases hv.1
          | cons v vs =>
            have h1 := hh.2
            have h2 := hh2.2
            rw [List.all_cons, Bool.and_eq_true] at h1 h2
            have h5 := hv.2
            rw [holeWs, Bool.or_eq_false_iff] at h5
            have d1 : deepT n a = true := by simpa using hd.2
            have d2 : deepT n b = true := by simpa using hd2.2
            rw [has_one n a b v d1 d2 h1.1 h2.1 h5.1]
        · rw [if_neg h4] at hd
          cases hd
/-! ### the law -/
theorem lawOne (t s : T) (v : W) : ∃ k, Ak k 10 [V.agg [X.d (D.int IntKind.i64 t.k), X.d (D.list 2 (T.rows t.l))], V.agg [X.d (D.int IntKind.i64 s.k), X.d (D.list 2 (T.rows s.l))], V.agg [X.d (D.int IntKind.i64 v.k), X.d (D.int IntKind.i64 v.n), X.d (D.list 3 (W.rows v.l))]] [] = some (R (bV true)) := by
  refine ⟨(2000000) + 60 + 1, ?_⟩
  have haw : Ak ((2000000) + 60) 13 [] [] = some (R (bV true)) := awake_all _
  generalize hk : (2000000) + 60 = k at haw ⊢
  refine (call10 k t.k (T.rows t.l) s.k (T.rows s.l) v.k v.n (W.rows v.l)).trans ?_
  rw [e10_eq]
  obtain ⟨k', rfl⟩ : ∃ k', k = k' + 1 := ⟨k - 1, by omega⟩
  have e1 : [[D.int IntKind.i64 t.k, D.list 2 (T.rows t.l)], [D.int IntKind.i64 s.k, D.list 2 (T.rows s.l)]] = T.rows [t, s] := by rw [T.rows, T.rows, T.rows, T.row_eq, T.row_eq]
  have e2 : [[D.int IntKind.i64 v.k, D.int IntKind.i64 v.n, D.list 3 (W.rows v.l)]] = W.rows [v] := by rw [W.rows_one]
  have hf := C12 k' 2000 (by omega) (by omega) (by omega) [t, s] (by simp)
  have hf2 := C23 k' 2000 (by omega) (by omega) (by omega) [v] (by simp) (by simp only [List.length_cons, List.length_nil]; omega)
  rw [← e1] at hf
  rw [← e2] at hf2
  rw [hf, g_oB]
  by_cases q1 : ((T.sizes [t, s] : Nat) : Int) ≤ 2000
  · rw [decide_eq_true q1, Bool.not_true, cond_false, hf2, g_oB]
    by_cases q2 : ((W.sizes [v] : Nat) : Int) ≤ 2000
    · rw [decide_eq_true q2, Bool.not_true, cond_false, q10_0_eq]
      have hsz : W.sizes [v] = v.size := by rw [W.sizes, W.sizes]; omega
      have hst : T.sizes [t, s] = t.size + s.size := by rw [T.sizes, T.sizes, T.sizes]; omega
      have h24 := C24 (k' + 1) t v (by omega) (by omega)
      have h24s := C24 (k' + 1) s v (by omega) (by omega)
      have h26 := C26 (k' + 1) v (by omega) (by omega)
      have h39 := C39 (k' + 1) v (by omega) (by omega)
      have h18 := C18 (k' + 1) t s (by omega) (by omega)
      unfold T.v W.v at h24 h24s
      unfold T.v at h18
      unfold W.v at h26 h39
      rw [h24, g_oB, h24s, g_oB, q10_1_eq, haw, g_oB, h39, g_oB, h18, g_oB]
      cases hp : hasP t v with
      | false =>
        cases hq : hasP s v with
        | false => rfl
        | true => rw [has_right s v hq] at h26; rw [h26, g_oB]; rfl
      | true =>
        rw [has_right t v hp] at h26
        rw [h26, g_oB]
        cases hq : hasP s v with
        | false => rfl
        | true =>
          cases hh : holeW v with
          | true => rfl
          | false =>
            have hp' := hp
            have hq' := hq
            unfold hasP at hp' hq'
            rw [Bool.and_eq_true, Bool.and_eq_true] at hp' hq'
            have e := has_one 40 t s v hp'.1.1 hq'.1.1 hp'.1.2 hq'.1.2 hh
            rw [show T.beq t s = true from (T.beq_iff t s).2 e]
            rfl
    · rw [decide_eq_false q2, Bool.not_false, cond_true, haw, g_oB]
  · rw [decide_eq_false q1, Bool.not_false, cond_true, haw, g_oB]
end Go.Proofs.YtkpdofiflhjahaaDoor.Ps
