/- A list handed in is no longer than the form's own reach. -/
import Derived.Test.YtkpdofiflhjahaaDoorVg
namespace Go.Proofs.YtkpdofiflhjahaaDoor.Ps
set_option linter.unusedVariables false
open Go Go.RowKit
theorem weights_head {H : Type} {P : Program} {t : TypeId} {ts x : List TypeId} {d : DataW H} {r y : List (DataW H)} {p : Nat → Bool} (h : (DataW.weightsEach P ((t :: ts) ++ x) ((d :: r) ++ y)).all p = true) : (d.weights P t).all p = true := by
  rw [List.cons_append, List.cons_append, DataW.weightsEach, List.all_append, Bool.and_eq_true] at h
  exact h.1
theorem len_rep {w : World} {φ : Nat → Nat} {sz : Nat} {rows : List (List D)} {v : Value} (h : RepD w φ (.list sz rows) v) : ∃ A c, v = .slice A rows.length c := by
  cases h with
  | nil A c => exact ⟨_, _, rfl⟩
  | list _ _ b off c vs => exact ⟨_, _, rfl⟩
theorem slice_short {H : Type} {enc : TypeId × Value → H} {P : Program} {w : World} {base fuel : Nat} {spare : Nat → Bool} {held : Bool} {t e : TypeId} {g : G} {sz : Nat} {rows : List (List D)} {v : Value} {x : DataW H × List MemPlace}
    (hu : P.underlying t = some (.slice e)) (h : DataW.trod enc P w base spare held fuel t v.cells.toList = some x) (hr : RepV g (V.one (X.d (D.list sz rows))) v) (hw : (x.1.weights P t).all (· ≤ reachBytes) = true) (hb : 0 < P.bytesOf e) : rows.length ≤ reachBytes := by
  obtain ⟨A, c, rfl⟩ : ∃ A c, v = .slice A rows.length c := by
    cases hr with
    | one _ _ h => cases h with
      | d _ _ h => exact len_rep h
  rcases DataW.trod_slice hu h with ⟨hc, _⟩ | ⟨a, len, cap, elems, rest, m, hm, hc, hx, hbs, hl, hmx, hlen, hel, _, _⟩
  · have : Value.slice A rows.length c = .slice none 0 0 := by simpa [Value.cells] using hc
    injection this with _ h2 _
    omega
  · have : Value.slice A rows.length c = .slice (some a) len cap := by simpa [Value.cells] using hc
    injection this with _ h2 _
    rw [hx] at hw
    unfold DataW.weights at hw
    rw [hu] at hw
    simp only [List.all_cons, Bool.and_eq_true, decide_eq_true_eq, List.length_map] at hw
    have h1 := hw.1
    have h3 : len + rest.length ≤ (len + rest.length) * P.bytesOf e := Nat.le_mul_of_pos_right _ hb
    rw [hlen] at h1
    omega
end Go.Proofs.YtkpdofiflhjahaaDoor.Ps
