/- Values: the law on what is read. -/
import Derived.Test.YtkpdofiflhjahaaDoorG6
import Derived.Test.YtkpdofiflhjahaaDoorPvL9
namespace Go.Proofs.YtkpdofiflhjahaaDoor.Ps
set_option linter.unusedVariables false
set_option linter.unusedSimpArgs false
set_option maxRecDepth 1000000
open Go Go.RowKit
theorem C38z (k : Nat) : Ak (k + 2) 38 [W.v (.mk 0 0 []), V.agg [X.d (D.int IntKind.i64 0), X.d (D.int IntKind.i64 0), X.nilL 3]] [] = some (R (bV true)) := by
  refine (call38_v1 (k + 1) 0 0 (W.rows []) 0 0).trans ?_
  rw [e38_v1_eq]
  show (q38_0_v1 (Ak (k + 1)) (k + 1) 0 0 (W.rows []) 0 0) = _
  rw [q38_0_v1_eq, l38_0_v1_eq, W.rows_len, show decide ((0 : Int) < Int.ofNat ([] : List W).length) = false from rfl, cond_false, q38_3_eq]
theorem C22z (k : Nat) : Ak (k + 2) 22 [T.v (.mk 0 []), V.agg [X.d (D.int IntKind.i64 0), X.nilL 2]] [] = some (R (bV true)) := by
  refine (call22_v1 (k + 1) 0 (T.rows []) 0).trans ?_
  rw [e22_v1_eq]
  show (q22_0_v1 (Ak (k + 1)) (k + 1) 0 (T.rows []) 0) = _
  rw [q22_0_v1_eq, l22_0_v1_eq, T.rows_len, show decide ((0 : Int) < Int.ofNat ([] : List T).length) = false from rfl, cond_false, q22_3_eq]
/-- What the reading of a type hands back, in short. -/
theorem parV_out (s : Bs) (hs : s.length ≤ 2000) : ∃ (t : T) (c : Int), t.size ≤ 2000 ∧ parV (parseT s) = .tup [t.v, iV c] ∧ ((c = 0 ∧ parseT s = some t) ∨ (c ≠ 0 ∧ t = .mk 0 [])) := by
  cases hp : parseT s with
  | none => exact ⟨.mk 0 [], 33, by rw [T.size, T.sizes]; omega, rfl, .inr ⟨by decide, rfl⟩⟩
  | some t =>
    have := parsed_size hp
    exact ⟨t, 0, by omega, rfl, .inl ⟨rfl, rfl⟩⟩
theorem lawRead (t : T) (s : ByteArray) : ∃ k, Ak k 9 [V.agg [X.d (D.int IntKind.i64 t.k), X.d (D.list 2 (T.rows t.l))], sV s] [] = some (R (bV true)) := by
  refine ⟨(2000000) + 60 + 1, ?_⟩
  have haw : Ak ((2000000) + 60) 13 [] [] = some (R (bV true)) := awake_all _
  generalize hk : (2000000) + 60 = k at haw ⊢
  refine (call9 k t.k (T.rows t.l) s).trans ?_
  rw [e9_eq]
  obtain ⟨k', rfl⟩ : ∃ k', k = k' + 1 + 1 := ⟨k - 2, by omega⟩
  have e1 : [[D.int IntKind.i64 t.k, D.list 2 (T.rows t.l)]] = T.rows [t] := by rw [T.rows_one]
  have hf := C12 (k' + 1) 2000 (by omega) (by omega) (by omega) [t] (by simp)
  rw [← e1] at hf
  rw [hf, g_oB]
  by_cases q1 : ((T.sizes [t] : Nat) : Int) ≤ 2000
  · rw [decide_eq_true q1, Bool.not_true, cond_false]
    by_cases q3 : Int.ofNat s.size > 2000
    · rw [decide_eq_true q3, cond_true, haw, g_oB]
    · rw [decide_eq_false q3, cond_false, q9_0_eq]
      obtain ⟨l, rfl⟩ : ∃ l, s = ba l := ⟨_, ba_of s⟩
      rw [ba_size] at q3
      have hl : l.length ≤ 2000 := by simp only [Int.ofNat_eq_natCast] at q3; omega
      have h34 := C34 (k' + 1 + 1) t l (by omega) (by omega)
      have h14 := C14 (k' + 1 + 1) l (by omega) (by omega)
      obtain ⟨w, c, hw, hp, hcase⟩ := parWo_out t l
      obtain ⟨t', c', ht', hp', hcase'⟩ := parV_out l hl
      rw [hp] at h34
      rw [hp'] at h14
      have z38 := C38z k'
      have z22 := C22z k'
      have h20 := C20 (k' + 1 + 1) t' (by omega) (by omega)
      have h16 := C16 (k' + 1 + 1) (by omega) t'
      have h24 := C24 (k' + 1 + 1) t w (by omega) (by omega)
      unfold T.v at h34 h20 h16
      unfold T.v W.v at h24
      rw [h34, W.v, g_t2a3IIL3oI, h14, T.v, g_t2a2IL2oI]
      have e20 : ∀ x : Bs, textT t' = x → beqL (ba (textT t')).data.toList (ba x).data.toList = true := fun x h => by rw [beqL_eq]; exact decide_eq_true (by rw [h])
      -- what stands behind the two readings
      have tail : ∀ (hc : c ≠ 0 ∨ c = 0), q9_1 (Ak (k' + 1 + 1)) (k' + 1 + 1) (ba l) c c' t.k (T.rows t.l) w.k w.n (W.rows w.l) t'.k (T.rows t'.l) = some (R (bV true)) := by
        intro _
        rw [q9_1_eq, haw, g_oB, h20, g_oS, h16, g_oB, O8.int_neb, O8.int_neb]
        have two : (bif !decide (c' = 0) then some (Out.mk true (V.one (X.d (D.bool true))) D.junk [] 0) else bif beqL (ba (textT t')).data.toList (ba l).data.toList then bif deepT 40 t' then some (Out.mk true (V.one (X.d (D.bool true))) D.junk [] 0) else some (Out.mk true (V.one (X.d (D.bool false))) D.junk [] 0) else some (Out.mk true (V.one (X.d (D.bool false))) D.junk [] 0)) = some (R (bV true)) := by
          rcases hcase' with ⟨h0, h1⟩ | ⟨h0, h1⟩
          · obtain ⟨h2, h3⟩ := parseT_inv h1
            rw [decide_eq_true h0, Bool.not_true, cond_false, e20 l h2, cond_true, h3]
            rfl
          · rw [decide_eq_false h0, Bool.not_false, cond_true]
        rcases hcase with ⟨h0, hd, h1⟩ | ⟨h0, h1, _⟩
        · obtain ⟨p1, p2, p3, p4⟩ := parsed_has h1
          have h36 := C36 (k' + 1 + 1) w p4 (by omega) (by omega)
          unfold W.v at h36
          rw [decide_eq_true h0, Bool.not_true, cond_false, h36, g_oS, beqL_eq, decide_eq_true (show (ba (textW w)).data.toList = (ba l).data.toList by rw [p2]), cond_true, h24, g_oB, p1, cond_true]
          exact two
        · rw [decide_eq_false h0, Bool.not_false, cond_true]
          exact two
      have zero' : c' ≠ 0 → Ak (k' + 1 + 1) 22 [V.agg [X.d (D.int IntKind.i64 t'.k), X.d (D.list 2 (T.rows t'.l))], V.agg [X.d (D.int IntKind.i64 0), X.nilL 2]] [] = some (R (bV true)) := fun h => by
        rcases hcase' with ⟨h0, _⟩ | ⟨_, h1⟩
        · exact absurd h0 h
        · rw [h1]; exact z22
      have zero : c ≠ 0 → Ak (k' + 1 + 1) 38 [V.agg [X.d (D.int IntKind.i64 w.k), X.d (D.int IntKind.i64 w.n), X.d (D.list 3 (W.rows w.l))], V.agg [X.d (D.int IntKind.i64 0), X.d (D.int IntKind.i64 0), X.nilL 3]] [] = some (R (bV true)) := fun h => by
        rcases hcase with ⟨h0, _⟩ | ⟨_, h1, _⟩
        · exact absurd h0 h
        · rw [h1]; exact z38
      have tl := tail (by omega)
      rw [O8.int_neb, O8.int_neb]
      by_cases hc : c = 0
      · rw [decide_eq_true hc, Bool.not_true, cond_false]
        by_cases hc' : c' = 0
        · rw [decide_eq_true hc', Bool.not_true, cond_false]; exact tl
        · rw [decide_eq_false hc', Bool.not_false, cond_true, zero' hc', g_oB, Bool.not_true, cond_false]; exact tl
      · rw [decide_eq_false hc, Bool.not_false, cond_true, zero hc, g_oB, Bool.not_true, cond_false]
        by_cases hc' : c' = 0
        · rw [decide_eq_true hc', Bool.not_true, cond_false]; exact tl
        · rw [decide_eq_false hc', Bool.not_false, cond_true, zero' hc', g_oB, Bool.not_true, cond_false]; exact tl
  · rw [decide_eq_false q1, Bool.not_false, cond_true, haw, g_oB]
end Go.Proofs.YtkpdofiflhjahaaDoor.Ps
