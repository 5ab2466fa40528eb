/- Types: the reference's texts; the law on types. -/
import Derived.Test.YtkpdofiflhjahaaDoorF5
import Derived.Test.YtkpdofiflhjahaaDoorPvL3
import Derived.Test.YtkpdofiflhjahaaDoorVk
namespace Go.Proofs.YtkpdofiflhjahaaDoor.Ps
set_option linter.unusedVariables false
set_option linter.unusedSimpArgs false
open Go Go.RowKit
theorem strRows_at (l : List Bs) (i : Nat) (h : i < l.length) : (strRows l).getD i [] = [D.str (ba (l.getD i []))] := by
  unfold strRows
  rw [List.getD_eq_getElem?_getD, List.getElem?_map, List.getElem?_eq_getElem h, List.getD_eq_getElem?_getD, List.getElem?_eq_getElem h]
  rfl
theorem joinTail_cons (sep x : Bs) (r : List Bs) : Lib.joinTail sep (x :: r) = sep ++ x ++ Lib.joinTail sep r := by unfold Lib.joinTail; simp
theorem L49 (k : Nat) (l : List Bs) (n2 : Nat) (hl : l.length ≤ 10000000) :
    ∀ (m i : Nat) (s : Bs), 1 ≤ i → l.length - i < m → s.length + (Lib.joinTail sepB (l.drop i)).length ≤ 1000000000 → l49_0_v1 m (Ak k) n2 (strRows l) (ba s) (Int.ofNat i) = some (R (sV (ba (s ++ Lib.joinTail sepB (l.drop i))))) := by
  intro m
  induction m with
  | zero => intro i s _ h; omega
  | succ m ih =>
    intro i s h1 h hs
    rw [l49_0_v1_eq, strRows_len]
    by_cases hi : i < l.length
    · have hd : l.drop i = l.getD i [] :: l.drop (i + 1) := by
        rw [List.drop_eq_getElem_cons hi, List.getD_eq_getElem?_getD, List.getElem?_eq_getElem hi]; rfl
      rw [hd, joinTail_cons] at hs ⊢
      simp only [List.length_append, show sepB.length = 2 from rfl] at hs
      have e44 : ByteArray.mk #[44, 32] = ba sepB := rfl
      rw [lt_yes i _ hi, cond_true, q49_0_v1_eq, decide_eq_true (show Int.ofNat i > 0 by simp only [Int.ofNat_eq_natCast]; omega), cond_true, ba_size, ble_t (by omega), cond_true, e44, ba_app, q49_1_v1_eq, strRows_len, in_range i _ hi, cond_true, tn, strRows_at l i hi,
        getD0, isStr_s, cond_true, bytes_s, ba_size, ba_size, ble_t (by simp only [List.length_append, show sepB.length = 2 from rfl]; omega), cond_true, ba_app, q49_2_eq, wrap_up i (by omega),
        ih (i + 1) _ (by omega) (by omega) (by simp only [List.length_append, show sepB.length = 2 from rfl]; omega)]
      simp only [List.append_assoc]
    · rw [lt_no i _ (by omega), cond_false, q49_3_eq, List.drop_eq_nil_of_le (by omega)]
      unfold Lib.joinTail
      simp
theorem C49 (k : Nat) (l : List Bs) (hl : l.length ≤ 10000000) (hj : (Lib.join l sepB).length ≤ 1000000000) (hk : l.length + 3 ≤ k) : Ak k 49 [V.one (X.d (D.list 1 (strRows l)))] [] = some (R (sV (ba (Lib.join l sepB)))) := by
  obtain ⟨k, rfl⟩ : ∃ k', k = k' + 2 := ⟨k - 2, by omega⟩
  refine (call49_v1 (k + 1) (strRows l)).trans ?_
  have e0 : ByteArray.mk #[] = ba [] := rfl
  rw [e49_v1_eq, l49_0_v1_eq, strRows_len, e0, show (0 : Int) = Int.ofNat 0 from rfl]
  cases l with
  | nil => rw [lt_no 0 _ (by simp), cond_false, q49_3_eq]; rfl
  | cons x r =>
    rw [Lib.join_cons] at hj ⊢
    rw [List.length_append] at hj
    rw [lt_yes 0 _ (by simp), cond_true, q49_0_v1_eq, decide_eq_false (by decide), cond_false, q49_1_v1_eq, strRows_len, in_range 0 _ (by simp), cond_true, tn, strRows_at _ 0 (by simp), getD0, isStr_s, cond_true, bytes_s, ba_size, ba_size,
      ble_t (by simp only [List.length_nil, List.getD_cons_zero]; omega), cond_true, ba_app, q49_2_eq, wrap_up 0 (by omega)]
    exact L49 (k + 1) (x :: r) (k + 1) hl k 1 _ (by omega) (by simp only [List.length_cons] at *; omega) (by simpa using hj)
theorem C49n (k : Nat) : Ak (k + 2) 49 [V.one (X.nilL 1)] [] = some (R (sV (ba []))) := by
  refine (call49 (k + 1)).trans ?_
  rw [e49_eq, l49_0_eq]
  show (bif decide ((0 : Int) < 0) then _ else _) = _
  rw [decide_eq_false (by omega), cond_false, q49_3_eq]
  rfl
theorem fin21 (k : Nat) (Γ : SemL) (κ : Int) (x : Bs) (a : V) (hx : x.length ≤ 1000000000) (hc : Γ 49 [a] [] = some (R (sV (ba x)))) :
    (bif κ == 1 then some (Out.mk true (V.one (X.d (D.str (ByteArray.mk #[98, 111, 111, 108])))) D.junk [] 0) else bif κ == 2 then some (Out.mk true (V.one (X.d (D.str (ByteArray.mk #[105, 110, 116])))) D.junk [] 0)
      else bif κ == 3 then r_oS (Γ 49 [a] []) [] fun u1_ => bif Nat.ble (1 + ByteArray.size u1_) 9223372036854775807 then bif Nat.ble (ByteArray.size (ByteArray.mk #[40] ++ u1_) + 1) 9223372036854775807 then some (Out.mk true (V.one (X.d (D.str (ByteArray.mk #[40] ++ u1_ ++ ByteArray.mk #[41])))) D.junk [] 0) else none else none
      else bif κ == 4 then r_oS (Γ 49 [a] []) [] fun u2_ => bif Nat.ble (1 + ByteArray.size u2_) 9223372036854775807 then bif Nat.ble (ByteArray.size (ByteArray.mk #[91] ++ u2_) + 1) 9223372036854775807 then some (Out.mk true (V.one (X.d (D.str (ByteArray.mk #[91] ++ u2_ ++ ByteArray.mk #[93])))) D.junk [] 0) else none else none else q21_3 Γ k) =
    some (R (sV (ba (if κ = 1 then [98, 111, 111, 108] else if κ = 2 then [105, 110, 116] else if κ = 3 then [40] ++ x ++ [41] else if κ = 4 then [91] ++ x ++ [93] else [63])))) := by
  have e40 : (ByteArray.mk #[40]) = ba [40] := rfl
  have e41 : (ByteArray.mk #[41]) = ba [41] := rfl
  have e91 : (ByteArray.mk #[91]) = ba [91] := rfl
  have e93 : (ByteArray.mk #[93]) = ba [93] := rfl
  rw [hc, g_oS, g_oS, e40, e41, e91, e93, ba_app, ba_app, ba_app, ba_app, ba_size, ba_size, ba_size, ble_t (by omega), ble_t (by simp; omega), ble_t (by simp; omega), q21_3_eq]
  simp only [int_eqb]
  by_cases h1 : κ = 1
  · subst h1; rfl
  · by_cases h2 : κ = 2
    · subst h2; rfl
    · by_cases h3 : κ = 3
      · subst h3; rfl
      · by_cases h4 : κ = 4
        · subst h4; rfl
        · rw [decide_eq_false h1, decide_eq_false h2, decide_eq_false h3, decide_eq_false h4, if_neg h1, if_neg h2, if_neg h3, if_neg h4]; rfl
theorem L21 (k : Nat) (κ : Int) (l : List T) (n2 : Nat) (hl : T.sizes l ≤ 1000000) (hk : l.length + 3 ≤ k) (hΓ : ∀ t ∈ l, Ak k 21 [t.v] [] = some (R (sV (ba (textT t))))) :
    ∀ (m i : Nat) (acc : List Bs), acc ++ textTs (l.drop i) = textTs l → acc.length ≤ l.length → l.length - i < m → l21_0_v1 m (Ak k) n2 (strRows acc) (Int.ofNat i) κ (T.rows l) = some (R (sV (ba (textT (.mk κ l))))) := by
  intro m
  have hlen := T.sizes_len l
  induction m with
  | zero => intro i acc _ _ h; omega
  | succ m ih =>
    intro i acc ha hal h
    rw [l21_0_v1_eq, T.rows_len]
    by_cases hi : i < l.length
    · have := hΓ (l.getD i default) (getD_mem l i hi)
      unfold T.v at this
      rw [lt_yes i _ hi, cond_true, q21_0_v1_eq, T.rows_len, in_range i _ hi, cond_true, tn, T.rows_at l i hi, getD0, getD1, this, g_oS, strRows_len, ble_t (by simp only [List.length_cons, List.length_nil]; omega)]
      have e : strRows acc ++ [[D.str (ba (textT (l.getD i default)))]] = strRows (acc ++ [textT (l.getD i default)]) := by unfold strRows; simp
      rw [e]
      simp only [Bool.and_self, cond_true]
      rw [q21_1_eq, wrap_up i (by omega)]
      have ha2 : (acc ++ [textT (l.getD i default)]) ++ textTs (l.drop (i + 1)) = textTs l := by
        rw [← ha, drop_getD l i hi, textTs]; simp
      refine ih (i + 1) _ ha2 ?_ (by omega)
      have := congrArg List.length ha2
      rw [List.length_append, textTs_map, textTs_map, List.length_map, List.length_map, List.length_drop] at this
      omega
    · rw [lt_no i _ (by omega), cond_false, q21_2_v1_eq]
      have hacc : acc = textTs l := by rw [← ha, List.drop_eq_nil_of_le (by omega), textTs]; simp
      subst hacc
      have hj := join_textTs_len l
      have hll : (textTs l).length = l.length := by rw [textTs_map, List.length_map]
      rw [fin21 _ _ _ _ _ (by omega) (C49 k (textTs l) (by omega) (by omega) (by omega)), textT]
theorem C21 : ∀ (k : Nat) (t : T), t.size ≤ 1000000 → t.size + 6 ≤ k → Ak k 21 [t.v] [] = some (R (sV (ba (textT t))))
  | 0, t, _, h => by omega
  | k + 1, t, hs, hk => by
    have hsz := t.size_eq
    have hlen := T.sizes_len t.l
    obtain ⟨κ, l⟩ := t
    simp only [T.l, T.k] at *
    refine (call21 k κ (T.rows l)).trans ?_
    rw [e21_eq]
    have hΓ : ∀ t ∈ l, Ak k 21 [t.v] [] = some (R (sV (ba (textT t)))) := fun x hx => C21 k x (by have := T.mem_size hx; omega) (by have := T.mem_size hx; omega)
    obtain ⟨k, rfl⟩ : ∃ k', k = k' + 2 := ⟨k - 2, by omega⟩
    rw [l21_0_eq, T.rows_len]
    by_cases hi : 0 < l.length
    · have := hΓ (l.getD 0 default) (getD_mem l 0 hi)
      unfold T.v at this
      rw [show (0 : Int) = Int.ofNat 0 from rfl, lt_yes 0 _ hi, cond_true, q21_0_eq, T.rows_len, in_range 0 _ hi, cond_true, tn, T.rows_at l 0 hi, getD0, getD1, this, g_oS, q21_1_eq, wrap_up 0 (by omega), strRows_one]
      exact L21 (k + 2) κ l (k + 2) (by omega) (by omega) hΓ (k + 1) 1 [textT (l.getD 0 default)] (by rw [← List.drop_zero (l := l), drop_getD l 0 hi, textTs]; simp) (by simp; omega) (by omega)
    · rw [show (0 : Int) = Int.ofNat 0 from rfl, lt_no 0 _ (by omega), cond_false, q21_2_eq]
      have hl0 : l = [] := List.eq_nil_of_length_eq_zero (by omega)
      subst hl0
      rw [fin21 _ _ _ _ _ (by simp) (C49n k), textT, textTs, Lib.join_nil]
theorem awake_call : Ak 1000000 13 [] [] = some (R (bV true)) := awake_run
theorem parsed_size {s : Bs} {t : T} (h : parseT s = some t) : t.size ≤ s.length := by
  unfold parseT at h
  split at h
  · rename_i t' ht
    split at h
    · cases h
      have := readT_size ht
      have h2 := congrArg List.length (readT_inv _ _ _ _ ht)
      rw [List.length_append] at h2
      omega
    · cases h
  · cases h
theorem lawTypes (a b : T) (s : ByteArray) : Ak 1000001 3 [a.v, b.v, sV s] [] = some (R (bV true)) := by
  refine (call3 1000000 a.k (T.rows a.l) b.k (T.rows b.l) s).trans ?_
  rw [e3_eq]
  have e2 : [[D.int IntKind.i64 a.k, D.list 2 (T.rows a.l)], [D.int IntKind.i64 b.k, D.list 2 (T.rows b.l)]] = T.rows [a, b] := by rw [T.rows, T.rows, T.rows, T.row_eq, T.row_eq]
  have hf := C12 999999 2000 (by omega) (by omega) (by omega) [a, b] (by simp)
  rw [← e2] at hf
  rw [hf, g_oB]
  have hsz : T.sizes [a, b] = a.size + b.size := by rw [T.sizes, T.sizes, T.sizes]; omega
  by_cases h1 : ((T.sizes [a, b] : Nat) : Int) ≤ 2000
  · rw [decide_eq_true h1, Bool.not_true, cond_false]
    by_cases h2 : Int.ofNat s.size > 2000
    · rw [decide_eq_true h2, cond_true, awake_call, g_oB]
    · rw [decide_eq_false h2, cond_false, q3_0_eq]
      obtain ⟨l, rfl⟩ : ∃ l, s = ba l := ⟨_, ba_of s⟩
      rw [ba_size] at h2
      have hl : l.length ≤ 2000 := by simp only [Int.ofNat_eq_natCast] at h2; omega
      have h14 := C14 1000000 l (by omega) (by omega)
      have h15 := C15 1000000 l (by omega) (by omega)
      have h16 := C16 1000000 (by omega) a
      have h17 := C17 1000000 (by omega) a
      have h18 := C18 1000000 a b (by omega) (by omega)
      have h19 := C19 1000000 a b (by omega) (by omega)
      have h20 := C20 1000000 a (by omega) (by omega)
      have h21 := C21 1000000 a (by omega) (by omega)
      unfold T.v at h16 h17 h18 h19 h20 h21
      obtain ⟨t, n, ht, hp⟩ : ∃ (t : T) (n : Int), t.size ≤ 2000 ∧ parV (parseT l) = .tup [t.v, iV n] := by
        cases hp : parseT l with
        | none => exact ⟨.mk 0 [], 33, by rw [T.size, T.sizes]; omega, rfl⟩
        | some t =>
          have := parsed_size hp
          exact ⟨t, 0, by omega, rfl⟩
      have h22 := C22 1000000 t t (by omega) (by omega)
      unfold T.v at h22
      rw [h14, h15, hp, T.v, g_t2a2IL2oI, g_t2a2IL2oI, h16, h17, g_oB, g_oB]
      simp only [BEq.rfl, cond_true]
      rw [h18, h19, g_oB, g_oB]
      simp only [BEq.rfl, cond_true]
      rw [h20, h21, g_oS, g_oS, beqL_eq, decide_eq_true rfl, cond_true, h22, g_oB, (T.beq_iff t t).2 rfl, cond_true, awake_call, g_oB]
  · rw [decide_eq_false h1, Bool.not_false, cond_true, awake_call, g_oB]
end Go.Proofs.YtkpdofiflhjahaaDoor.Ps
