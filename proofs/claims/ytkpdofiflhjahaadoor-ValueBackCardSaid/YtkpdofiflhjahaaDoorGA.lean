/- Values: the laws on texts and on the way back. -/
import Derived.Test.YtkpdofiflhjahaaDoorFE
namespace Go.Proofs.YtkpdofiflhjahaaDoor.Ps
set_option linter.unusedVariables false
set_option linter.unusedSimpArgs false
set_option maxRecDepth 1000000
open Go Go.RowKit
theorem has_ok : ∀ (n : Nat) (t : T) (v : W), deepT n t = true → hasT n t v = true → W.Ok v
  | 0, _, _, h, _ => by cases h
  | n + 1, .mk k l, .mk k' m vs, hd, hh => by
    unfold hasT at hh
    rw [Bool.and_eq_true, decide_eq_true_eq] at hh
    obtain ⟨rfl, hh⟩ := hh
    unfold deepT at hd
    by_cases h1 : k' = 1
    · rw [if_pos h1] at hh
      simp only [Bool.and_eq_true, Bool.or_eq_true, decide_eq_true_eq] at hh
      obtain rfl : vs = [] := List.isEmpty_iff.1 hh.2
      exact .mk _ _ _ (by omega) (by omega) (fun c hc => by cases hc)
    · rw [if_neg h1] at hh
      by_cases h2 : k' = 2
      · rw [if_pos h2] at hh
        simp only [Bool.and_eq_true, decide_eq_true_eq] at hh
        obtain rfl : vs = [] := List.isEmpty_iff.1 hh.2
        exact .mk _ _ _ (by omega) (by omega) (fun c hc => by cases hc)
      · rw [if_neg h2] at hh
        rw [if_neg (fun q => q.elim h1 h2)] at hd
        by_cases h3 : k' = 3
        · rw [if_pos h3] at hh hd
          simp only [Bool.and_eq_true, decide_eq_true_eq, List.all_eq_true] at hd hh
          refine .mk _ _ _ (by omega) (by omega) (fun c hc => ?_)
          obtain ⟨i, hi, rfl⟩ := List.getElem_of_mem hc
          obtain ⟨z1, z2⟩ := all2_at _ _ _ hh.2 i hi
          exact has_ok n _ _ (hd.2 _ (getD_mem l i z1)) z2
        · rw [if_neg h3] at hh hd
          by_cases h4 : k' = 4
          · rw [if_pos h4] at hd
            simp only [Bool.and_eq_true, decide_eq_true_eq, List.all_eq_true] at hd hh
            obtain ⟨a, rfl⟩ : ∃ a, l = [a] := by
              match l, hd.1 with
              | [a], _ => exact ⟨a, rfl⟩
            exact .mk _ _ _ (by omega) (by omega) (fun c hc => has_ok n a c (hd.2 a (by simp)) (hh.2 c hc))
          · rw [if_neg h4] at hd
            cases hd
theorem parsed_has {t : T} {s : Bs} {v : W} (h : parseV t s = some v) : hasP t v = true ∧ s = textW v ∧ v.size ≤ 1000 ∧ W.Ok v := by
  obtain ⟨h1, h2⟩ := (parseV_iff t s v).1 h
  have h3 := h1
  unfold hasV at h3
  rw [Bool.and_eq_true, Bool.and_eq_true, decide_eq_true_eq] at h3
  exact ⟨h1, h2, h3.2, has_ok 40 t v h3.1.1 h3.1.2⟩
/-- What Parse hands back, in short. -/
theorem parWo_out (t : T) (s : Bs) : ∃ (w : W) (c : Int), w.size ≤ 1000 ∧ parWo t s = .tup [w.v, iV c] ∧ ((c = 0 ∧ deepT 40 t = true ∧ parseV t s = some w) ∨ (c ≠ 0 ∧ w = .mk 0 0 [] ∧ parseV t s = none)) := by
  unfold parWo
  cases hd : deepT 40 t with
  | false =>
    refine ⟨.mk 0 0 [], 1, by rw [W.size, W.sizes]; omega, rfl, .inr ⟨by decide, rfl, ?_⟩⟩
    cases hp : parseV t s with
    | none => rfl
    | some w =>
      have := (parsed_has hp).1
      unfold hasP at this
      rw [hd] at this
      cases this
  | true =>
    rw [if_pos rfl]
    cases hp : parseV t s with
    | none => exact ⟨.mk 0 0 [], 33, by rw [W.size, W.sizes]; omega, rfl, .inr ⟨by decide, rfl, rfl⟩⟩
    | some w => exact ⟨w, 0, (parsed_has hp).2.2.1, rfl, .inl ⟨rfl, rfl, rfl⟩⟩
end Go.Proofs.YtkpdofiflhjahaaDoor.Ps
