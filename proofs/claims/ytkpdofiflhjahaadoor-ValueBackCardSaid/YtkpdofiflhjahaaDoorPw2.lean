/- strings.Join, as a call of the evaluator; the library of this program. -/
import Derived.Test.YtkpdofiflhjahaaDoorPw1
namespace Go.Proofs.YtkpdofiflhjahaaDoor.Ps
set_option linter.unusedVariables false
open Go Go.RowKit Go.Proofs.YtkpdofiflhjahaaDoor

/-- The texts of a list of texts. -/
def textsOf : List (List D) → Option (List ByteArray)
  | [] => some []
  | r :: rs => match dat r 0, textsOf rs with
    | .str s, some l => some (s :: l)
    | _, _ => none
theorem textsOf_at : ∀ {rs : List (List D)} {l : List ByteArray}, textsOf rs = some l → l.length = rs.length ∧ ∀ (j : Nat) x, l[j]? = some x → j < rs.length ∧ dat (rs.getD j []) 0 = .str x
  | [], l, h => by cases h; exact ⟨rfl, fun j x hj => by cases hj⟩
  | r :: rs, l, h => by
    unfold textsOf at h
    split at h
    · rename_i s l' h1 h2
      cases h
      obtain ⟨h3, h4⟩ := textsOf_at h2
      refine ⟨by simp [h3], fun j x hj => ?_⟩
      cases j with
      | zero => cases hj; exact ⟨by simp, h1⟩
      | succ j =>
        obtain ⟨h5, h6⟩ := h4 j x hj
        exact ⟨by simp; omega, h6⟩
    · cases h
def joinB (l : List ByteArray) (sep : ByteArray) : ByteArray := ⟨(Lib.join (l.map (·.data.toList)) sep.data.toList).toArray⟩
theorem RepVs.two_eq {g : G} {x y : V} {us : List Value} (h : RepVs g [x, y] us) : ∃ u v, us = [u, v] ∧ RepV g x u ∧ RepV g y v := by
  rcases us with _ | ⟨u, _ | ⟨v, _ | ⟨v2, us⟩⟩⟩
  · exact absurd h.1 (by simp)
  · exact absurd h.1 (by simp)
  · exact ⟨u, v, rfl, h.head.1, h.head.2.head.1⟩
  · exact absurd h.1 (by simp)
theorem join_ok {w0 : World} (x : V) (rs : List (List D)) (l : List ByteArray) (sep : ByteArray) (hx : ∀ g u, RepV g x u → RepD g.w g.φ (.list 1 rs) u) (ht : textsOf rs = some l) (h1 : l.length ≤ 140737488355328)
    (h2 : (Lib.join (l.map (·.data.toList)) sep.data.toList).length ≤ 140737488355328) : CallOk Tryd.prog w0 48 [x, dv (.str sep)] [] ⟨true, dv (.str (joinB l sep)), .junk, [], 0⟩ := by
  refine lib_ok (fun us w => ?_) (fun g us hsi he hv => ?_)
  · have hf : Tryd.prog.funcs[48]? = some Tryd.f48 := Tryd.func48
    simp [callFunc, Sem.run_bind, run_program, hf]
    rfl
  · obtain ⟨u, v, rfl, hu, hv⟩ := hv.two_eq
    have e := hv.str_eq
    subst e
    have hd := hx g u hu
    obtain ⟨hlen, hat⟩ := textsOf_at ht
    cases hd with
    | nil sz A c =>
      have : l = [] := List.eq_nil_of_length_eq_zero hlen
      subst this
      refine (Tryd.strings_Join_none A c sep g.w).mono ?_
      rintro e w' ⟨rfl, rfl⟩
      exact ⟨_, rfl, Below.refl _ _, .of_d (by
        have : joinB [] sep = ⟨#[]⟩ := by unfold joinB Lib.join; simp
        rw [this]
        exact .str _)⟩
    | list sz rows b off c vs hc hb hcell hone hrep =>
      cases hr : rs with
      | nil =>
        subst hr
        have : l = [] := List.eq_nil_of_length_eq_zero hlen
        subst this
        refine (Tryd.strings_Join_none _ c sep g.w).mono ?_
        rintro e w' ⟨rfl, rfl⟩
        exact ⟨_, rfl, Below.refl _ _, .of_d (by
          have : joinB [] sep = ⟨#[]⟩ := by unfold joinB Lib.join; simp
          rw [this]
          exact .str _)⟩
      | cons r0 rs0 =>
        rw [← hr]
        have hpos : 0 < rs.length := by rw [hr]; simp
        have hbk : b < g.w.heap.size := by
          rcases Nat.lt_or_ge b g.w.heap.size with h | h
          · exact h
          · have := he.fresh b h
            omega
        rw [← hlen]
        refine (Tryd.strings_Join b off c l sep g.w (fun j x hj => ?_) hbk h1 (by omega) h2).mono ?_
        · obtain ⟨h3, h4⟩ := hat j x hj
          have h5 := hcell j 0 h3 (by omega)
          have h6 := hrep j 0 h3 (by omega)
          rw [h4] at h6
          have h7 : vs j 0 = .string x := by generalize vs j 0 = y at h6; cases h6; rfl
          rw [h7] at h5
          have : j * 1 + 0 = j := by omega
          rw [this] at h5
          exact h5
        · rintro e w' ⟨rfl, hb'⟩
          exact ⟨_, rfl, hb', .of_d (.str _)⟩
end Go.Proofs.YtkpdofiflhjahaaDoor.Ps
