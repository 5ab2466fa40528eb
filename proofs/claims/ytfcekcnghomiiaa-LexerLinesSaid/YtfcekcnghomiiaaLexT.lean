/- The text of tokens, and what two fixed texts scan to. -/
import Derived.Test.YtfcekcnghomiiaaLexC
import Derived.Test.YtfcekcnghomiiaaX9
namespace Go.Proofs.Ytfcekcnghomiiaa
open Go.RowKit Go.Proofs.YtfcekcnghomiiaaW.PrintWords Go.Proofs.YtfcekcnghomiiaaW.PrintLast Go.Proofs.YtfcekcnghomiiaaW.PrintMore
namespace X
open Lx

theorem rd36 (l : List Tok) (i : Nat) (h : i < l.length) : rd_T36 (l.map t36) (i : Int) = t36 l[i] := by
  unfold rd_T36
  rw [Int.toNat_natCast, List.getD_eq_getElem?_getD, List.getElem?_map, List.getElem?_eq_getElem h]
  rfl
/-- The texts that stand in a list of tokens. -/
def texts (l : List Tok) : List (List UInt8) := (l.filter fun t => decide (t.kind ≠ 5)).map (·.text)

theorem texts_append (a b : List Tok) : texts (a ++ b) = texts a ++ texts b := by simp [texts]
theorem texts_one (t : Tok) : texts [t] = if t.kind = 5 then [] else [t.text] := by
  by_cases h : t.kind = 5 <;> simp [texts, h]

theorem text_l0 (l : List Tok) (hl : l.length ≤ 1000000) (hz : (joined ((texts l).map bx) (bx [32])).size ≤ 140737488355328) : ∀ (d i : Nat), i ≤ l.length → l.length - i = d →
    Ev (fun k => lexer_Text.l0 k ((texts (l.take i)).map bx) (l.map t36) (l.length : Int) (i : Int)) (joined ((texts l).map bx) (bx [32])) := by
  have hlen : ∀ m : List Tok, (texts m).length ≤ m.length := fun m => by unfold texts; rw [List.length_map]; exact List.length_filter_le _ _
  intro d
  induction d with
  | zero =>
    intro i hi hd
    have e : l.take i = l := List.take_of_length_le (by omega)
    rw [e]
    refine ev0 fun k => ?_
    simp only [lexer_Text.l0]
    have := hlen l
    rw [if_neg (by omega)]
    show (strings_Join.f ((texts l).map bx) (bx [32])).bind _ = _
    unfold strings_Join.f
    rw [if_pos ⟨hz, by rw [List.length_map]; omega⟩]
    rfl
  | succ d ih =>
    intro i hi hd
    have hlt : i < l.length := by omega
    have h2 := ih (i + 1) (by omega) (by omega)
    have hsn : l.take (i + 1) = l.take i ++ [l[i]] := List.take_succ_eq_append_getElem hlt
    have hle := hlen (l.take i)
    rw [List.length_take] at hle
    refine ev1 h2 fun k hk => ?_
    simp only [lexer_Text.l0]
    rw [if_pos (by omega), if_pos (by omega), if_pos (by rw [List.length_map]; omega), rd36 l i hlt, w1 i (by omega)]
    by_cases h5 : l[i].kind = 5
    · rw [if_pos (show (t36 l[i]).f0 = 5 from h5)]
      have : texts (l.take (i + 1)) = texts (l.take i) := by
        rw [hsn, texts_append, texts_one, if_pos h5, List.append_nil]
      rw [← this]
      exact hk
    · rw [if_neg (show ¬ (t36 l[i]).f0 = 5 from h5), if_pos (by rw [List.length_map]; omega)]
      have : (texts (l.take (i + 1))).map bx = (texts (l.take i)).map bx ++ [(t36 l[i]).f1] := by
        rw [hsn, texts_append, texts_one, if_neg h5, List.map_append]
        rfl
      rw [← this]
      exact hk

theorem text_f (l : List Tok) (hl : l.length ≤ 1000000) (hz : (joined ((texts l).map bx) (bx [32])).size ≤ 140737488355328) : Ev (fun k => lexer_Text.f k (l.map t36)) (joined ((texts l).map bx) (bx [32])) := by
  refine ev1z (text_l0 l hl hz _ 0 (by omega) rfl) fun k hk => ?_
  unfold lexer_Text.f
  rw [List.length_map]
  exact hk

theorem joined_bx (l : List (List UInt8)) (s : List UInt8) : joined (l.map bx) (bx s) = bx (Lib.join l s) := by
  unfold joined
  rw [bx_data, List.map_map]
  have : ((fun x : ByteArray => x.data.toList) ∘ bx) = id := by
    funext x
    exact bx_data x
  rw [this, List.map_id]
  rfl

theorem lex_let : lex [108, 101, 116, 32, 120, 61, 49] = .ok [⟨2, [108, 101, 116], 0, 1, 1⟩, ⟨1, [120], 0, 1, 5⟩, ⟨4, [61], 0, 1, 6⟩, ⟨3, [49], 1, 1, 7⟩, ⟨5, [], 0, 1, 8⟩] := by
  unfold lex
  rw [if_neg (by decide), scan, if_neg (by decide), if_neg (by decide), if_neg (by decide), show tok [108, 101, 116, 32, 120, 61, 49] = .ok 2 [108, 101, 116] 0 from rfl]
  have h1 : scan [49] (1 : Int) (7 : Int) = .ok [⟨3, [49], 1, 1, 7⟩, ⟨5, [], 0, 1, 8⟩] := by
    rw [scan, if_neg (by decide), if_neg (by decide), if_neg (by decide), show tok [49] = .ok 3 [49] 1 from rfl]
    show (match scan [] (1 : Int) (7 + ((([49] : List UInt8).length : Nat) : Int)) with | .error f => _ | .ok l => _) = _
    rw [scan]
    rfl
  have h2 : scan [61, 49] (1 : Int) (6 : Int) = .ok [⟨4, [61], 0, 1, 6⟩, ⟨3, [49], 1, 1, 7⟩, ⟨5, [], 0, 1, 8⟩] := by
    rw [scan, if_neg (by decide), if_neg (by decide), if_neg (by decide), show tok [61, 49] = .ok 4 [61] 0 from rfl]
    show (match scan [49] (1 : Int) (7 : Int) with | .error f => _ | .ok l => _) = _
    rw [h1]
  have h3 : scan [120, 61, 49] (1 : Int) (5 : Int) = .ok [⟨1, [120], 0, 1, 5⟩, ⟨4, [61], 0, 1, 6⟩, ⟨3, [49], 1, 1, 7⟩, ⟨5, [], 0, 1, 8⟩] := by
    rw [scan, if_neg (by decide), if_neg (by decide), if_neg (by decide), show tok [120, 61, 49] = .ok 1 [120] 0 from rfl]
    show (match scan [61, 49] (1 : Int) (6 : Int) with | .error f => _ | .ok l => _) = _
    rw [h2]
  have h4 : scan [32, 120, 61, 49] (1 : Int) (4 : Int) = scan [120, 61, 49] (1 : Int) (5 : Int) := by
    rw [scan, if_neg (by decide), if_pos (by decide)]
    rfl
  show (match scan [32, 120, 61, 49] (1 : Int) (4 : Int) with | .error f => _ | .ok l => _) = _
  rw [h4, h3]

theorem lex_dollar : lex [97, 32, 36] = .error ⟨10, [36], 1, 3⟩ := by
  unfold lex
  rw [if_neg (by decide), scan, if_neg (by decide), if_neg (by decide), if_neg (by decide), show tok [97, 32, 36] = .ok 1 [97] 0 from rfl]
  have h1 : scan [36] (1 : Int) (3 : Int) = .error ⟨10, [36], 1, 3⟩ := by
    rw [scan, if_neg (by decide), if_neg (by decide), if_neg (by decide), show tok [36] = .bad 10 [36] from rfl]
  have h2 : scan [32, 36] (1 : Int) (2 : Int) = .error ⟨10, [36], 1, 3⟩ := by
    rw [scan, if_neg (by decide), if_pos (by decide)]
    exact h1
  show (match scan [32, 36] (1 : Int) (2 : Int) with | .error f => _ | .ok l => _) = _
  rw [h2]

end X
end Go.Proofs.Ytfcekcnghomiiaa
