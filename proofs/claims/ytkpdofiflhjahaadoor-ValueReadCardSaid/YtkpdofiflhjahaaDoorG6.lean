/- Values: the laws on texts and on the way back. -/
import Derived.Test.YtkpdofiflhjahaaDoorFC
import Derived.Test.YtkpdofiflhjahaaDoorPvL6
import Derived.Test.YtkpdofiflhjahaaDoorVk
namespace Go.Proofs.YtkpdofiflhjahaaDoor.Ps
set_option linter.unusedVariables false
set_option linter.unusedSimpArgs false
set_option maxRecDepth 1000000
open Go Go.RowKit
theorem has_ok : ∀ (n : Nat) (t : T) (v : W), deepT n t = true → hasT n t v = true → W.Ok v
  | 0, _, _, h, _ => by cases h
  | n + 1, .mk k l, .mk k' m vs, hd, hh => by
    unfold hasT at hh
    rw [Bool.and_eq_true, decide_eq_true_eq] at hh
    obtain ⟨rfl, hh⟩ := hh
    unfold deepT at hd
    by_cases h1 : k' = 1
    · rw [if_pos h1] at hh
      simp only [Bool.and_eq_true, Bool.or_eq_true, decide_eq_true_eq] at hh
      obtain rfl : vs = [] := List.isEmpty_iff.1 hh.2
      exact .mk _ _ _ (by omega) (by omega) (fun c hc => by cases hc)
    · rw [if_neg h1] at hh
      by_cases h2 : k' = 2
      · rw [if_pos h2] at hh
        simp only [Bool.and_eq_true, decide_eq_true_eq] at hh
        obtain rfl : vs = [] := List.isEmpty_iff.1 hh.2
        exact .mk _ _ _ (by omega) (by omega) (fun c hc => by cases hc)
      · rw [if_neg h2] at hh
        rw [if_neg (fun q => q.elim h1 h2)] at hd
        by_cases h3 : k' = 3
        · rw [if_pos h3] at hh hd
          simp only [Bool.and_eq_true, decide_eq_true_eq, List.all_eq_true] at hd hh
          refine .mk _ _ _ (by omega) (by omega) (fun c hc => ?_)
          obtain ⟨i, hi, rfl⟩ := List.getElem_of_mem hc
          obtain ⟨z1, z2⟩ := all2_at _ _ _ hh.2 i hi
          exact has_ok n _ _ (hd.2 _ (getD_mem l i z1)) z2
        · rw [if_neg h3] at hh hd
          by_cases h4 : k' = 4
          · rw [if_pos h4] at hd
            simp only [Bool.and_eq_true, decide_eq_true_eq, List.all_eq_true] at hd hh
            obtain ⟨a, rfl⟩ : ∃ a, l = [a] := by
              match l, hd.1 with
              | [a], _ => exact ⟨a, rfl⟩
            exact .mk _ _ _ (by omega) (by omega) (fun c hc => has_ok n a c (hd.2 a (by simp)) (hh.2 c hc))
          · rw [if_neg h4] at hd
            cases hd
theorem parsed_has {t : T} {s : Bs} {v : W} (h : parseV t s = some v) : hasP t v = true ∧ s = textW v ∧ v.size ≤ 1000 ∧ W.Ok v := by
  obtain ⟨h1, h2⟩ := (parseV_iff t s v).1 h
  have h3 := h1
  unfold hasV at h3
  rw [Bool.and_eq_true, Bool.and_eq_true, decide_eq_true_eq] at h3
  exact ⟨h1, h2, h3.2, has_ok 40 t v h3.1.1 h3.1.2⟩
/-- What Parse hands back, in short. -/
theorem parWo_out (t : T) (s : Bs) : ∃ (w : W) (c : Int), w.size ≤ 1000 ∧ parWo t s = .tup [w.v, iV c] ∧ ((c = 0 ∧ deepT 40 t = true ∧ parseV t s = some w) ∨ (c ≠ 0 ∧ w = .mk 0 0 [] ∧ parseV t s = none)) := by
  unfold parWo
  cases hd : deepT 40 t with
  | false =>
    refine ⟨.mk 0 0 [], 1, by rw [W.size, W.sizes]; omega, rfl, .inr ⟨by decide, rfl, ?_⟩⟩
    cases hp : parseV t s with
    | none => rfl
    | some w =>
      have := (parsed_has hp).1
      unfold hasP at this
      rw [hd] at this
      cases this
  | true =>
    rw [if_pos rfl]
    cases hp : parseV t s with
    | none => exact ⟨.mk 0 0 [], 33, by rw [W.size, W.sizes]; omega, rfl, .inr ⟨by decide, rfl, rfl⟩⟩
    | some w => exact ⟨w, 0, (parsed_has hp).2.2.1, rfl, .inl ⟨rfl, rfl, rfl⟩⟩
theorem lawTexts (v : W) (t : T) (s : ByteArray) (ok : W.Ok v) : ∃ k, Ak k 6 [V.agg [X.d (D.int IntKind.i64 v.k), X.d (D.int IntKind.i64 v.n), X.d (D.list 3 (W.rows v.l))], V.agg [X.d (D.int IntKind.i64 t.k), X.d (D.list 2 (T.rows t.l))], sV s] [] = some (R (bV true)) := by
  refine ⟨(2000000) + 60 + 1, ?_⟩
  have haw : Ak ((2000000) + 60) 13 [] [] = some (R (bV true)) := awake_all _
  generalize hk : (2000000) + 60 = k at haw ⊢
  refine (call6 k v.k v.n (W.rows v.l) t.k (T.rows t.l) s).trans ?_
  rw [e6_eq]
  obtain ⟨k', rfl⟩ : ∃ k', k = k' + 1 := ⟨k - 1, by omega⟩
  have e1 : [[D.int IntKind.i64 t.k, D.list 2 (T.rows t.l)]] = T.rows [t] := by rw [T.rows_one]
  have e2 : [[D.int IntKind.i64 v.k, D.int IntKind.i64 v.n, D.list 3 (W.rows v.l)]] = W.rows [v] := by rw [W.rows_one]
  have hf := C12 k' 2000 (by omega) (by omega) (by omega) [t] (by simp)
  have hf2 := C23 k' 2000 (by omega) (by omega) (by omega) [v] (by simp) (by simp only [List.length_cons, List.length_nil]; omega)
  rw [← e1] at hf
  rw [← e2] at hf2
  rw [hf2, g_oB]
  by_cases q2 : ((W.sizes [v] : Nat) : Int) ≤ 2000
  · rw [decide_eq_true q2, Bool.not_true, cond_false, hf, g_oB]
    by_cases q1 : ((T.sizes [t] : Nat) : Int) ≤ 2000
    · rw [decide_eq_true q1, Bool.not_true, cond_false]
      by_cases q3 : Int.ofNat s.size > 2000
      · rw [decide_eq_true q3, cond_true, haw, g_oB]
      · rw [decide_eq_false q3, cond_false, q6_0_eq]
        obtain ⟨l, rfl⟩ : ∃ l, s = ba l := ⟨_, ba_of s⟩
        rw [ba_size] at q3
        have hl : l.length ≤ 2000 := by simp only [Int.ofNat_eq_natCast] at q3; omega
        have hsz : W.sizes [v] = v.size := by rw [W.sizes, W.sizes]; omega
        have h34 := C34 (k' + 1) t l (by omega) (by omega)
        have h35 := C35 (k' + 1) t l (by omega) (by omega)
        have h36 := C36 (k' + 1) v ok (by omega) (by omega)
        have h37 := C37 (k' + 1) v ok (by omega) (by omega)
        obtain ⟨w, c, hw, hp, _⟩ := parWo_out t l
        have h38 := C38 (k' + 1) w w (by omega) (by omega)
        rw [hp] at h34 h35
        unfold T.v at h34 h35
        unfold W.v at h36 h37 h38
        rw [h34, W.v, g_t2a3IIL3oI, h35, W.v, g_t2a3IIL3oI, h36, g_oS, h37, g_oS, beqL_eq, decide_eq_true rfl, cond_true, h38, g_oB, (W.beq_iff w w).2 rfl, cond_true, beq_self_eq_true, cond_true, haw, g_oB]
    · rw [decide_eq_false q1, Bool.not_false, cond_true, haw, g_oB]
  · rw [decide_eq_false q2, Bool.not_false, cond_true, haw, g_oB]
end Go.Proofs.YtkpdofiflhjahaaDoor.Ps
