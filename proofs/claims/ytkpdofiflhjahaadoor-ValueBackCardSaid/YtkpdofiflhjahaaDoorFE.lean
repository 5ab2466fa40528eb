/- Values: their texts, by the program and by the reference. -/
import Derived.Test.YtkpdofiflhjahaaDoorF8
import Derived.Test.YtkpdofiflhjahaaDoorFA
import Derived.Test.YtkpdofiflhjahaaDoorVx
import Derived.Test.YtkpdofiflhjahaaDoorPvY
import Derived.Test.YtkpdofiflhjahaaDoorVg
import Derived.Test.YtkpdofiflhjahaaDoorFB
namespace Go.Proofs.YtkpdofiflhjahaaDoor.Ps
section
set_option linter.unusedVariables false
set_option linter.unusedSimpArgs false
open Go Go.RowKit
theorem itoa_len64 {v : Int} (h0 : -9223372036854775808 ≤ v) (h1 : v ≤ 9223372036854775807) : (Lib.itoa v).length ≤ 20 := by
  by_cases h : v < 0
  · rw [itoa_min h, List.length_cons]
    have := decDigits_len 18 v.natAbs (by omega)
    omega
  · rw [itoa_pos (by omega)]
    have := decDigits_len 18 v.toNat (by omega)
    omega
theorem W.Ok.num {k n : Int} {l : List W} (h : W.Ok (.mk k n l)) : -9223372036854775808 ≤ n ∧ n ≤ 9223372036854775807 := by
  cases h with
  | mk _ _ _ h0 h1 _ => exact ⟨h0, h1⟩
theorem W.Ok.kids {k n : Int} {l : List W} (h : W.Ok (.mk k n l)) : ∀ c ∈ l, W.Ok c := by
  cases h with
  | mk _ _ _ _ _ hl => exact hl
theorem join_textWs_of (l : List W) (h : ∀ t ∈ l, (textW t).length + 2 ≤ 24 * t.size) : (Lib.join (textWs l) sepB).length ≤ 24 * W.sizes l := by
  induction l with
  | nil => rw [textWs, W.sizes, Lib.join_nil]; simp
  | cons a r ih =>
    have h1 := h a (by simp)
    cases r with
    | nil => rw [textWs, textWs, Lib.join_one, W.sizes, W.sizes]; omega
    | cons b r =>
      have h2 := ih (fun t ht => h t (by simp at ht ⊢; exact .inr ht))
      rw [textWs, textWs, join_two, List.length_append, List.length_append, ← textWs, W.sizes]
      have : sepB.length = 2 := rfl
      omega
theorem textW_len : ∀ t : W, W.Ok t → (textW t).length + 2 ≤ 24 * t.size := by
  suffices ∀ n, ∀ t : W, t.size ≤ n → W.Ok t → (textW t).length + 2 ≤ 24 * t.size from fun t => this _ t (Nat.le_refl _)
  intro n
  induction n with
  | zero => intro t h; have := t.size_pos; omega
  | succ n ih =>
    intro t h ok
    obtain ⟨κ, m, l⟩ := t
    have hsz : (W.mk κ m l).size = 1 + W.sizes l := by rw [W.size]
    have h5 := join_textWs_of l (fun t ht => ih t (by have := W.mem_size ht; omega) (ok.kids t ht))
    have h6 := itoa_len64 ok.num.1 ok.num.2
    unfold textW
    split
    · split
      · rw [show falseB.length = 5 from rfl]; omega
      · rw [show trueB.length = 4 from rfl]; omega
    · split
      · omega
      · split
        · simp only [List.length_append, List.length_cons, List.length_nil]; omega
        · split
          · simp only [List.length_append, List.length_cons, List.length_nil]; omega
          · simp only [List.length_cons, List.length_nil]; omega
theorem join_textWs_len (l : List W) (h : ∀ t ∈ l, W.Ok t) : (Lib.join (textWs l) sepB).length ≤ 24 * W.sizes l := join_textWs_of l fun t ht => textW_len t (h t ht)
/-! ### numbers -/
theorem wrap_u64 (n : Int) (h : 0 ≤ n) (h' : n ≤ 18446744073709551615) : IntKind.wrap .u64 n = n := by
  have e1 : IntKind.bits .u64 = 64 := rfl
  have e2 : IntKind.signed .u64 = false := rfl
  have e3 : (2 ^ 64 : Int) = 18446744073709551616 := rfl
  unfold IntKind.wrap
  simp only [e1, e2, e3]
  simp
  omega
theorem wrap_u8 (n : Int) (h : 0 ≤ n) (h' : n ≤ 255) : IntKind.wrap .u8 n = n := by
  have e1 : IntKind.bits .u8 = 8 := rfl
  have e2 : IntKind.signed .u8 = false := rfl
  have e3 : (2 ^ 8 : Int) = 256 := rfl
  unfold IntKind.wrap
  simp only [e1, e2, e3]
  simp
  omega
theorem C63 (k : Nat) (n : Int) (h0 : -9223372036854775808 ≤ n) (h1 : n ≤ 9223372036854775807) : Ak (k + 1) 63 [iV n] [] = some (R (sV (ba (Lib.itoa n)))) := by
  have e : Ak (k + 1) 63 [iV n] [] = cond (decide (-9223372036854775808 ≤ n) && decide (n ≤ 9223372036854775807)) (some (R (dv (.str ⟨(Lib.itoa n).toArray⟩)))) none := rfl
  rw [e, decide_eq_true h0, decide_eq_true h1]
  rfl
/-! ### by the program -/
theorem C62 (k : Nat) (n : Int) : Ak (k + 2) 62 [V.one (X.d (D.bool (n != 0)))] [] = some (R (sV (ba (if n = 0 then falseB else trueB)))) := by
  refine (call62 (k + 1) (n != 0)).trans ?_
  rw [e62_eq, show Ak (k + 1) 80 [V.one (X.d (D.bool (n != 0)))] [] = _ from call80 k (n != 0), e80_eq, q80_0_eq, int_neb]
  by_cases h : n = 0
  · rw [decide_eq_true h, if_pos h]; rfl
  · rw [decide_eq_false h, if_neg h]; rfl
theorem fin36 (k : Nat) (κ n : Int) (x : Bs) (h0 : -9223372036854775808 ≤ n) (h1 : n ≤ 9223372036854775807) (hx : x.length ≤ 1000000000) :
    (bif κ == 1 then r_oS (Ak (k + 2) 62 [V.one (X.d (D.bool (n != 0)))] []) [] fun u1_ => some (Out.mk true (V.one (X.d (D.str u1_))) D.junk [] 0) else bif κ == 2 then r_oS (Ak (k + 2) 63 [V.one (X.d (D.int IntKind.i64 n))] []) [] fun u2_ => some (Out.mk true (V.one (X.d (D.str u2_))) D.junk [] 0)
      else bif κ == 3 then bif Nat.ble (1 + ByteArray.size (ba x)) 9223372036854775807 then bif Nat.ble (ByteArray.size (ByteArray.mk #[40] ++ ba x) + 1) 9223372036854775807 then some (Out.mk true (V.one (X.d (D.str (ByteArray.mk #[40] ++ ba x ++ ByteArray.mk #[41])))) D.junk [] 0) else none else none
      else bif κ == 4 then bif Nat.ble (1 + ByteArray.size (ba x)) 9223372036854775807 then bif Nat.ble (ByteArray.size (ByteArray.mk #[91] ++ ba x) + 1) 9223372036854775807 then some (Out.mk true (V.one (X.d (D.str (ByteArray.mk #[91] ++ ba x ++ ByteArray.mk #[93])))) D.junk [] 0) else none else none else q36_3 (Ak (k + 2)) (k + 2)) =
    some (R (sV (ba (if κ = 1 then (if n = 0 then falseB else trueB) else if κ = 2 then Lib.itoa n else if κ = 3 then [40] ++ x ++ [41] else if κ = 4 then [91] ++ x ++ [93] else [63])))) := by
  have e40 : (ByteArray.mk #[40]) = ba [40] := rfl
  have e41 : (ByteArray.mk #[41]) = ba [41] := rfl
  have e91 : (ByteArray.mk #[91]) = ba [91] := rfl
  have e93 : (ByteArray.mk #[93]) = ba [93] := rfl
  rw [C62 k n, g_oS, show Ak (k + 2) 63 [V.one (X.d (D.int IntKind.i64 n))] [] = _ from C63 (k + 1) n h0 h1, g_oS, e40, e41, e91, e93, ba_app, ba_app, ba_app, ba_app, ba_size, ba_size, ba_size, ble_t (by omega), ble_t (by simp; omega), ble_t (by simp; omega), q36_3_eq]
  simp only [int_eqb]
  by_cases h1 : κ = 1
  · subst h1; rfl
  · by_cases h2 : κ = 2
    · subst h2; rfl
    · by_cases h3 : κ = 3
      · subst h3; rfl
      · by_cases h4 : κ = 4
        · subst h4; rfl
        · rw [decide_eq_false h1, decide_eq_false h2, decide_eq_false h3, decide_eq_false h4, if_neg h1, if_neg h2, if_neg h3, if_neg h4]; rfl
theorem L36 (k : Nat) (κ n : Int) (l : List W) (q : List (List D)) (n2 : Nat) (hl : W.sizes l ≤ 1000000) (h0 : -9223372036854775808 ≤ n) (h1 : n ≤ 9223372036854775807) (hok : ∀ t ∈ l, W.Ok t) (hΓ : ∀ t ∈ l, Ak (k + 2) 36 [t.v] [] = some (R (sV (ba (textW t))))) :
    ∀ (m i : Nat) (acc : List Bs), acc ++ textWs (l.drop i) = textWs l → acc.length ≤ l.length → l.length - i < m → l36_0_v1 m (Ak (k + 2)) (k + 2) (strRows acc) (W.rows l) (Int.ofNat l.length) (Int.ofNat i) κ n q = some (R (sV (ba (textW (.mk κ n l))))) := by
  intro m
  have hlen := W.sizes_len l
  induction m with
  | zero => intro i acc _ _ h; omega
  | succ m ih =>
    intro i acc ha hal h
    rw [l36_0_v1_eq]
    by_cases hi : i < l.length
    · have := hΓ (l.getD i default) (getD_mem l i hi)
      unfold W.v at this
      rw [lt_yes i _ hi, cond_true, q36_0_v1_eq, W.rows_len, in_range i _ hi, cond_true, tn, W.rows_at l i hi, getD0, getD1, getD2, this, g_oS, strRows_len, ble_t (by simp only [List.length_cons, List.length_nil]; omega)]
      have e : strRows acc ++ [[D.str (ba (textW (l.getD i default)))]] = strRows (acc ++ [textW (l.getD i default)]) := by unfold strRows; simp
      rw [e]
      simp only [Bool.and_self, cond_true]
      rw [q36_1_eq, wrap_up i (by omega)]
      have ha2 : (acc ++ [textW (l.getD i default)]) ++ textWs (l.drop (i + 1)) = textWs l := by
        rw [← ha, drop_getD l i hi, textWs]; simp
      refine ih (i + 1) _ ha2 ?_ (by omega)
      have := congrArg List.length ha2
      rw [List.length_append, textWs_map, textWs_map, List.length_map, List.length_map, List.length_drop] at this
      omega
    · rw [lt_no i _ (by omega), cond_false, q36_2_v1_eq]
      have hacc : acc = textWs l := by rw [← ha, List.drop_eq_nil_of_le (by omega), textWs]; simp
      subst hacc
      have hj := join_textWs_len l hok
      have hc := C48 (k + 1) (textWs l) sepB (by rw [textWs_map, List.length_map]; omega) (by omega)
      show r_oS (Ak (k + 1 + 1) 48 [V.one (X.d (D.list 1 (strRows (textWs l)))), V.one (X.d (D.str (ba sepB)))] []) [] _ = _
      rw [hc, g_oS, fin36 k κ n _ h0 h1 (by omega), textW]
theorem C36 : ∀ (k : Nat) (t : W), W.Ok t → t.size ≤ 1000000 → t.size + 6 ≤ k → Ak k 36 [t.v] [] = some (R (sV (ba (textW t))))
  | 0, t, _, _, h => by omega
  | k + 1, .mk κ n l, ok, hs, hk => by
    have hsz : (W.mk κ n l).size = 1 + W.sizes l := by rw [W.size]
    have hlen := W.sizes_len l
    refine (call36 k κ n (W.rows l)).trans ?_
    rw [e36_eq, W.rows_len]
    have hΓ : ∀ t ∈ l, Ak k 36 [t.v] [] = some (R (sV (ba (textW t)))) := fun x hx => C36 k x (ok.kids x hx) (by have := W.mem_size hx; omega) (by have := W.mem_size hx; omega)
    obtain ⟨k, rfl⟩ : ∃ k', k = k' + 2 := ⟨k - 2, by omega⟩
    rw [l36_0_eq]
    by_cases hi : 0 < l.length
    · have := hΓ (l.getD 0 default) (getD_mem l 0 hi)
      unfold W.v at this
      rw [show decide ((0 : Int) < Int.ofNat l.length) = true from lt_yes 0 _ hi, cond_true, q36_0_eq, W.rows_len, show (decide ((0 : Int) ≤ 0) && decide ((0 : Int) < Int.ofNat l.length)) = true from in_range 0 _ hi, cond_true, show Int.toNat 0 = 0 from rfl, W.rows_at l 0 hi, getD0, getD1, getD2, this, g_oS, q36_1_eq, show IntKind.wrap .i64 (0 + 1) = Int.ofNat 1 from wrap_up 0 (by omega), strRows_one]
      exact L36 k κ n l (W.rows l) (k + 2) (by omega) ok.num.1 ok.num.2 ok.kids hΓ (k + 1) 1 [textW (l.getD 0 default)] (by rw [← List.drop_zero (l := l), drop_getD l 0 hi, textWs]; simp) (by simp; omega) (by omega)
    · rw [show decide ((0 : Int) < Int.ofNat l.length) = false from lt_no 0 _ (by omega), cond_false, q36_2_eq]
      have hl0 : l = [] := List.eq_nil_of_length_eq_zero (by omega)
      subst hl0
      show r_oS (Ak (k + 1 + 1) 48 [V.one (X.nilL 1), sV (ba sepB)] []) [] _ = _
      rw [C48n, g_oS, fin36 k κ n [] ok.num.1 ok.num.2 (by simp), textW, textWs, Lib.join_nil]
end
section
set_option linter.unusedVariables false
set_option linter.unusedSimpArgs false
open Go Go.RowKit
theorem ba_get (s : Bs) (i : Nat) (h : i < s.length) : (ba s).get! i = s.getD i 0 := by
  unfold ba ByteArray.get!
  simp [h]
theorem drop_get (s : Bs) (i : Nat) (h : i < s.length) : s.drop i = s.getD i 0 :: s.drop (i + 1) := by
  rw [List.drop_eq_getElem_cons h, List.getD_eq_getElem?_getD, List.getElem?_eq_getElem h]; rfl
theorem atoi_range {l : Bs} {v : Int} (h : Lib.atoiAll l = .ok v) : -9223372036854775808 ≤ v ∧ v ≤ 9223372036854775807 := by
  unfold Lib.atoiAll at h
  split at h
  · cases h
  · dsimp only at h
    split at h
    · cases h
    · cases h
    · split at h
      · cases h
      · split at h
        · cases h
        · injection h with h
          split at h <;> omega
theorem C78 (k : Nat) (s : Bs) (h : s.length ≤ 1000000) : Ak (k + 1) 78 [sV (ba s)] [] = some (R (atoiO (ba s))) := by
  have e : Ak (k + 1) 78 [sV (ba s)] [] = cond (Nat.ble (ba s).size 281474976710656) (some (R (atoiO (ba s)))) none := rfl
  rw [e, ba_size, Nat.ble_eq_true_of_le (by omega)]
  rfl
/-! ### a number -/
theorem L60n (Γ : SemL) (s : Bs) (hs : s.length ≤ 1000000) (n2 : Nat) (κ : Int) : ∀ (m i : Nat), i ≤ 11 → 11 - i < m → i ≤ s.length →
    l60_0 m Γ n2 (ba s) (Int.ofNat i) 0 0 κ 0 = q60_2 Γ n2 (ba s) (Int.ofNat (i + (spanN (11 - i) (s.drop i)).length)) 0 0 κ 0 := by
  intro m
  induction m with
  | zero => intro i _ h; omega
  | succ m ih =>
    intro i h11 hm hi
    rw [l60_0_eq, ba_size]
    by_cases h1 : i < s.length
    · rw [lt_yes i _ h1, cond_true]
      by_cases h2 : i < 11
      · rw [decide_eq_true (show Int.ofNat i < 11 by simp only [Int.ofNat_eq_natCast]; omega), cond_true, show decide ((0 : Int) ≤ Int.ofNat i) = true from decide_eq_true (Int.natCast_nonneg i), tn, ba_get s i h1]
        simp only [Bool.and_self, cond_true]
        obtain ⟨j, hj⟩ : ∃ j, 11 - i = j + 1 := ⟨10 - i, by omega⟩
        rw [hj, drop_get s i h1]
        unfold spanN
        generalize hc : s.getD i 0 = c
        have step : q60_1 Γ m n2 (ba s) (Int.ofNat i) 0 0 κ 0 = q60_2 Γ n2 (ba s) (Int.ofNat (i + (c :: spanN j (s.drop (i + 1))).length)) 0 0 κ 0 := by
          rw [q60_1_eq, wrap_up i (by omega), ih (i + 1) (by omega) (by omega) (by omega), show 11 - (i + 1) = j by omega, List.length_cons, show i + 1 + (spanN j (s.drop (i + 1))).length = i + ((spanN j (s.drop (i + 1))).length + 1) by omega]
        by_cases h45 : c.toNat = 45
        · have e : (Int.ofNat c.toNat == 45) = true := by rw [h45]; rfl
          rw [e, cond_true, step, if_pos (by unfold numC; rw [decide_eq_true h45]; rfl)]
        · have e : (Int.ofNat c.toNat == 45) = false := by rw [O8.int_eqb]; exact decide_eq_false (by simp only [Int.ofNat_eq_natCast]; omega)
          rw [e, cond_false]
          by_cases h48 : 48 ≤ c.toNat
          · rw [decide_eq_true (show Int.ofNat c.toNat ≥ 48 by simp only [Int.ofNat_eq_natCast]; omega), cond_true]
            by_cases h57 : c.toNat ≤ 57
            · rw [decide_eq_true (show Int.ofNat c.toNat ≤ 57 by simp only [Int.ofNat_eq_natCast]; omega), cond_true, step, if_pos (by unfold numC isDig; rw [decide_eq_true h48, decide_eq_true h57]; simp)]
            · rw [decide_eq_false (show ¬ Int.ofNat c.toNat ≤ 57 by simp only [Int.ofNat_eq_natCast]; omega), cond_false, if_neg (by unfold numC isDig; rw [decide_eq_false h45, decide_eq_false h57]; simp)]
              rfl
          · rw [decide_eq_false (show ¬ Int.ofNat c.toNat ≥ 48 by simp only [Int.ofNat_eq_natCast]; omega), cond_false, if_neg (by unfold numC isDig; rw [decide_eq_false h45, decide_eq_false h48]; simp)]
            rfl
      · rw [decide_eq_false (show ¬ Int.ofNat i < 11 by simp only [Int.ofNat_eq_natCast]; omega), cond_false, show 11 - i = 0 by omega]
        rfl
    · rw [lt_no i _ (by omega), cond_false, List.drop_eq_nil_of_le (by omega)]
      have : spanN (11 - i) [] = [] := by cases 11 - i <;> rfl
      rw [this]
      rfl
def Res60 (x : Option (W × Bs)) (o : Option Out) : Prop := ∃ (v' : W) (r' : Bs), o = some (R (.tup [v'.v, sV (ba r'), bV x.isSome])) ∧ ∀ v r, x = some (v, r) → v' = v ∧ r' = r
theorem Res60.fail {v' : W} {r' : Bs} : Res60 none (some (R (.tup [v'.v, sV (ba r'), bV false]))) := ⟨v', r', rfl, fun v r h => by cases h⟩
theorem Res60.ok {v : W} {r : Bs} : Res60 (some (v, r)) (some (R (.tup [v.v, sV (ba r), bV true]))) := ⟨v, r, rfl, fun v' r' h => by cases h; exact ⟨rfl, rfl⟩⟩
theorem C60n (k : Nat) (s : Bs) (hs : s.length ≤ 1000000) : Res60 ((readI s).map fun x => (W.mk 2 x.1 [], x.2)) (q60_2 (Ak (k + 1)) (k + 1) (ba s) (Int.ofNat (spanN 11 s).length) 0 0 2 0) := by
  have hfr := span_front 11 s
  have hlen := congrArg List.length hfr
  rw [List.length_append] at hlen
  have hle : (spanN 11 s).length ≤ s.length := by omega
  have htake : (s.take (spanN 11 s).length).drop 0 = spanN 11 s := by
    rw [List.drop_zero]
    conv => lhs; rw [hfr]
    rw [List.take_left']
    rw [← hfr]
  have hdrop : (s.take s.length).drop (spanN 11 s).length = s.drop (spanN 11 s).length := by rw [List.take_length]
  have e1 : (decide ((0 : Int) ≤ Int.ofNat (spanN 11 s).length) && decide (Int.ofNat (spanN 11 s).length ≤ Int.ofNat s.length) && true && decide ((0 : Int) ≤ Int.ofNat (spanN 11 s).length)) = true := by simp; omega
  have e2 : (decide ((0 : Int) ≤ Int.ofNat s.length) && decide (Int.ofNat s.length ≤ Int.ofNat s.length) && decide ((0 : Int) ≤ Int.ofNat (spanN 11 s).length) && decide (Int.ofNat (spanN 11 s).length ≤ Int.ofNat s.length)) = true := by simp; omega
  rw [q60_2_eq, ba_size, e1, e2, tn, tn, ba_extract, ba_extract, htake, hdrop, show Ak (k + 1) 78 [V.one (X.d (D.str (ba (spanN 11 s))))] [] = _ from C78 k _ (by omega)]
  simp only [cond_true]
  unfold readI atoiO
  rw [ba_list]
  cases ha : Lib.atoiAll (spanN 11 s) with
  | ok v =>
    obtain ⟨h0, h1⟩ := atoi_range ha
    show Res60 _ (r_t2oIoD (some (Out.mk true (V.tup [V.one (X.d (D.int IntKind.i64 v)), V.one (X.d D.nilI)]) D.junk [] 0)) [] _)
    rw [g_t2oIoD, show D.isNilI D.nilI = true from rfl, cond_true, show Ak (k + 1) 63 [V.one (X.d (D.int IntKind.i64 v))] [] = _ from C63 k v h0 h1, Option.bind_some]
    show Res60 _ (some (Out.mk true (V.tup [V.agg [X.d (D.int IntKind.i64 2), X.d (D.int IntKind.i64 v), X.d (D.list 3 [])], V.one (X.d (D.str (ba (s.drop (spanN 11 s).length)))), V.one (X.d (D.bool (beqL (Lib.itoa v) (spanN 11 s))))]) D.junk [] 0))
    rw [beqL_eq]
    by_cases he : Lib.itoa v = spanN 11 s
    · simp only [he, if_true, decide_true]
      exact Res60.ok (v := .mk 2 v [])
    · simp only [he, if_false, decide_false]
      exact Res60.fail (v' := .mk 2 v [])
  | range => exact Res60.fail (v' := .mk 2 _ [])
  | _ => exact Res60.fail (v' := .mk 2 _ [])
/-! ### parts -/
theorem L60 (k n : Nat) (κ : Int) (l : List T) (fin : Bs) (n2 N : Nat) (hN : N ≤ 1000000) (rd : Nat → Bs → Option (W × Bs)) (hκ : κ = 3 ∨ κ = 4) (h0 : 0 < l.length)
    (hrd : ∀ i q, rd i q = if κ = 3 then (if i = l.length then none else readW n (l.getD i default) q) else readW n (l.getD 0 default) q)
    (hΓ : ∀ t ∈ l, ∀ q : Bs, q.length ≤ N → Res60 (readW n t q) (Ak (k + 3) 60 [t.v, sV (ba q)] [])) :
    ∀ (m f : Nat) (s : Bs) (acc : List W), s.length < m → s.length < f → s.length ≤ N → acc.length + s.length ≤ N → (κ = 3 → acc.length ≤ l.length) →
      Res60 ((loopW rd fin f s acc).map fun x => (W.mk κ 0 x.1, x.2)) (l60_1_v1 m (Ak (k + 3)) n2 (ba fin) (ba s) true (Int.ofNat acc.length) κ (T.rows l) 0 0 κ 0 (W.rows acc)) := by
  intro m
  induction m with
  | zero => intro f s acc h; omega
  | succ m ih =>
    intro f s acc hm hf hr hacc hi3
    obtain ⟨f, rfl⟩ : ∃ f', f = f' + 1 := ⟨f - 1, by omega⟩
    -- what stands behind the choice of the child
    have main : ∀ t ∈ l, rd acc.length s = readW n t s → (κ = 3 → acc.length < l.length) → Res60 ((loopW rd fin (f + 1) s acc).map fun x => (W.mk κ 0 x.1, x.2)) (q60_8_v1 (Ak (k + 3)) m n2 (ba fin) (ba s) (Int.ofNat acc.length) κ (T.rows l) 0 0 κ 0 (W.rows acc) (D.int IntKind.i64 t.k) (D.list 2 (T.rows t.l))) := by
      intro t ht hrt hlt
      obtain ⟨v', r', ho, he⟩ := hΓ t ht s hr
      unfold T.v at ho
      rw [q60_8_v1_eq, ho, W.v, g_t3a3IIL3oSoB]
      unfold loopW
      rw [hrt]
      cases hread : readW n t s with
      | none =>
        rw [Option.isSome_none, Bool.not_false, cond_true, q60_12_v1_eq]
        exact Res60.fail (v' := .mk κ 0 acc) (r' := [])
      | some p =>
        obtain ⟨v, r1⟩ := p
        obtain ⟨rfl, rfl⟩ := he v r1 hread
        have hinv := readW_inv _ _ _ _ _ hread
        obtain ⟨c, q, hq, _⟩ := textW_head v'
        have h3 := congrArg List.length hinv
        rw [hq, List.length_append, List.length_cons] at h3
        rw [Option.isSome_some, Bool.not_true, cond_false, q60_9_v1_eq, W.rows_len, ble_t (by simp only [List.length_cons, List.length_nil]; omega)]
        simp only [Bool.and_self, cond_true]
        rw [C65, cutV, g_t2oSoB, ← W.rows_one, ← W.rows_app]
        cases hc : cutP fin r' with
        | some r2 =>
          simp only [Option.isSome_some, cond_true, Option.getD_some]
          exact Res60.ok (v := .mk κ 0 (acc ++ [v']))
        | none =>
          simp only [Option.isSome_none, cond_false, Option.getD_none]
          rw [q60_10_eq]
          show Res60 _ (r_t2oSoB (Ak (k + 3) 65 [sV (ba r'), sV (ba sepB)] []) [] _)
          rw [C65, cutV, g_t2oSoB, q60_11_eq, wrap_up _ (by omega)]
          cases hs : cutP sepB r' with
          | none =>
            simp only [Option.isSome_none, Option.getD_none]
            obtain ⟨m, rfl⟩ : ∃ m', m = m' + 1 := ⟨m - 1, by omega⟩
            rw [l60_1_v1_eq, cond_false, q60_12_v1_eq]
            exact Res60.fail (v' := .mk κ 0 (acc ++ [v'])) (r' := [])
          | some r3 =>
            simp only [Option.isSome_some, Option.getD_some]
            have h5 := congrArg List.length (cutP_some hs)
            rw [List.length_append, show sepB.length = 2 from rfl] at h5
            have := ih f r3 (acc ++ [v']) (by omega) (by omega) (by omega) (by rw [List.length_append, List.length_cons, List.length_nil]; omega) (fun h => by rw [List.length_append, List.length_cons, List.length_nil]; have := hlt h; omega)
            rw [List.length_append, List.length_cons, List.length_nil] at this
            exact this
    rw [l60_1_v1_eq, cond_true, q60_6_v1_eq, T.rows_len, decide_eq_true (show (0 : Int) < Int.ofNat l.length by simp only [Int.ofNat_eq_natCast]; omega), Bool.true_and, cond_true, O8.int_eqb]
    rcases hκ with h3 | h4
    · rw [decide_eq_true h3, cond_true, O8.int_eqb]
      by_cases hie : acc.length = l.length
      · rw [decide_eq_true (show Int.ofNat acc.length = Int.ofNat l.length by rw [hie]), cond_true]
        unfold loopW
        rw [hrd, if_pos h3, if_pos hie]
        exact Res60.fail (v' := .mk κ 0 acc) (r' := [])
      · have hlt : acc.length < l.length := by have := hi3 h3; omega
        rw [decide_eq_false (show ¬ Int.ofNat acc.length = Int.ofNat l.length by simp only [Int.ofNat_eq_natCast]; omega), cond_false, q60_7_v1_eq, T.rows_len, in_range _ _ hlt, cond_true, tn, T.rows_at l _ hlt]
        exact main _ (getD_mem l _ hlt) (by rw [hrd, if_pos h3, if_neg hie]) (fun _ => hlt)
    · rw [decide_eq_false (show ¬ κ = 3 by omega), cond_false, T.rows_at l 0 h0]
      exact main _ (getD_mem l 0 h0) (by rw [hrd, if_neg (by omega)]) (fun h => by omega)
theorem L60s (k n : Nat) (κ : Int) (l : List T) (fin : Bs) (n2 N : Nat) (hN : N ≤ 1000000) (rd : Nat → Bs → Option (W × Bs)) (hκ : κ = 3 ∨ κ = 4) (h0 : 0 < l.length)
    (hrd : ∀ i q, rd i q = if κ = 3 then (if i = l.length then none else readW n (l.getD i default) q) else readW n (l.getD 0 default) q)
    (hΓ : ∀ t ∈ l, ∀ q : Bs, q.length ≤ N → Res60 (readW n t q) (Ak (k + 3) 60 [t.v, sV (ba q)] [])) (m : Nat) (s : Bs) (hm : s.length + 1 < m) (hr : s.length + 1 ≤ N) :
      Res60 ((loopW rd fin (s.length + 1) s []).map fun x => (W.mk κ 0 x.1, x.2)) (l60_1 m (Ak (k + 3)) n2 (ba fin) (ba s) true 0 κ (T.rows l) 0 0 κ 0) := by
  obtain ⟨m, rfl⟩ : ∃ m', m = m' + 1 := ⟨m - 1, by omega⟩
  have hl0 : l.getD 0 default ∈ l := getD_mem l 0 h0
  have hrt : rd 0 s = readW n (l.getD 0 default) s := by
    rw [hrd]
    by_cases h3 : κ = 3
    · rw [if_pos h3, if_neg (by omega)]
    · rw [if_neg h3]
  obtain ⟨v', r', ho, he⟩ := hΓ _ hl0 s (by omega)
  unfold T.v at ho
  have key : Res60 ((loopW rd fin (s.length + 1) s []).map fun x => (W.mk κ 0 x.1, x.2)) (q60_8 (Ak (k + 3)) m n2 (ba fin) (ba s) 0 κ (T.rows l) 0 0 κ 0 (D.int IntKind.i64 (l.getD 0 default).k) (D.list 2 (T.rows (l.getD 0 default).l))) := by
    rw [q60_8_eq, ho, W.v, g_t3a3IIL3oSoB]
    unfold loopW
    rw [show rd ([] : List W).length s = _ from hrt]
    cases hread : readW n (l.getD 0 default) s with
    | none =>
      rw [Option.isSome_none, Bool.not_false, cond_true, q60_12_eq]
      exact Res60.fail (v' := .mk κ 0 []) (r' := [])
    | some p =>
      obtain ⟨v, r1⟩ := p
      obtain ⟨rfl, rfl⟩ := he v r1 hread
      have hinv := readW_inv _ _ _ _ _ hread
      obtain ⟨c, q, hq, _⟩ := textW_head v'
      have h3 := congrArg List.length hinv
      rw [hq, List.length_append, List.length_cons] at h3
      rw [Option.isSome_some, Bool.not_true, cond_false, q60_9_eq, C65, cutV, g_t2oSoB, ← W.rows_one]
      cases hc : cutP fin r' with
      | some r2 =>
        simp only [hc, Option.isSome_some, cond_true, Option.getD_some]
        exact Res60.ok (v := .mk κ 0 [v'])
      | none =>
        simp only [hc, Option.isSome_none, cond_false, Option.getD_none]
        rw [q60_10_eq]
        show Res60 _ (r_t2oSoB (Ak (k + 3) 65 [sV (ba r'), sV (ba sepB)] []) [] _)
        rw [C65, cutV, g_t2oSoB, q60_11_eq, show IntKind.wrap .i64 (0 + 1) = Int.ofNat 1 from wrap_up 0 (by omega)]
        cases hs : cutP sepB r' with
        | none =>
          simp only [hs, Option.isSome_none, Option.getD_none]
          obtain ⟨m, rfl⟩ : ∃ m', m = m' + 1 := ⟨m - 1, by omega⟩
          rw [l60_1_v1_eq, cond_false, q60_12_v1_eq]
          exact Res60.fail (v' := .mk κ 0 [v']) (r' := [])
        | some r3 =>
          simp only [hs, Option.isSome_some, Option.getD_some]
          have h5 := congrArg List.length (cutP_some hs)
          rw [List.length_append, show sepB.length = 2 from rfl] at h5
          exact L60 k n κ l fin n2 N hN rd hκ h0 hrd hΓ m s.length r3 [v'] (by omega) (by omega) (by omega) (by simp; omega) (fun _ => by simp; omega)
  rw [l60_1_eq, cond_true, q60_6_eq, T.rows_len, decide_eq_true (show (0 : Int) < Int.ofNat l.length by simp only [Int.ofNat_eq_natCast]; omega), Bool.true_and, cond_true, O8.int_eqb, T.rows_at l 0 h0]
  rcases hκ with h3 | h4
  · rw [decide_eq_true h3, cond_true, O8.int_eqb, decide_eq_false (show ¬ (0 : Int) = Int.ofNat l.length by simp only [Int.ofNat_eq_natCast]; omega), cond_false, q60_7_eq, T.rows_len, show (decide ((0 : Int) ≤ 0) && decide ((0 : Int) < Int.ofNat l.length)) = true from in_range 0 _ h0, cond_true, show Int.toNat 0 = 0 from rfl, T.rows_at l 0 h0]
    exact key
  · rw [decide_eq_false (show ¬ κ = 3 by omega), cond_false]
    exact key
theorem L60f (m : Nat) (Γ : SemL) (n2 : Nat) (a b : ByteArray) (κ : Int) (l : List (List D)) : Res60 none (l60_1 (m + 1) Γ n2 a b false 0 κ l 0 0 κ 0) := by
  rw [l60_1_eq, cond_false, q60_12_eq]
  exact Res60.fail (v' := .mk κ 0 []) (r' := [])
theorem C60t (k n : Nat) (l : List T) (s : Bs) (N : Nat) (hN : N ≤ 1000000) (hs : s.length ≤ N) (hk : N + (n + 1) + 30 ≤ k + 3 + 1) (hΓ : ∀ t ∈ l, ∀ q : Bs, q.length ≤ N → Res60 (readW n t q) (Ak (k + 3) 60 [t.v, sV (ba q)] [])) (h0 : 0 < l.length) : Res60 (match cutP [40] s with | none => none | some r => (loopW (fun i q => if i = l.length then none else readW n (l.getD i default) q) [41] (r.length + 1) r []).map fun x => (W.mk 3 0 x.1, x.2)) (q60_4 (Ak (k + 3)) (k + 3) (ba s) (ba [40]) (ba [41]) 3 (T.rows l) 0 0 3 0) := by
  rw [q60_4_eq]
  show Res60 _ (r_t2oSoB (Ak (k + 3) 65 [sV (ba s), sV (ba [40])] []) [] _)
  rw [C65, cutV, g_t2oSoB]
  show Res60 _ (r_t2oSoB (Ak (k + 3) 65 [sV (ba ((cutP [40] s).getD s)), sV (ba [41])] []) [] _)
  rw [C65, cutV, g_t2oSoB, q60_5_eq]
  cases hc : cutP [40] s with
  | none =>
    simp only [Option.isSome_none, cond_false]
    exact L60f (k + 2) _ _ _ _ _ _
  | some r =>
    have h5 := congrArg List.length (cutP_some hc)
    rw [List.length_append, List.length_cons, List.length_nil] at h5
    have hh := L60s k n 3 l [41] (k + 3) N hN (fun i q => if i = l.length then none else readW n (l.getD i default) q) (.inl rfl) h0 (fun i q => by rw [if_pos rfl]) hΓ (k + 3) r (by omega) (by omega)
    rw [Option.isSome_some, cond_true, Option.getD_some, O8.int_eqb, decide_eq_false (show ¬ (3 : Int) = 4 by decide), cond_false]
    cases (cutP [41] r).isSome
    · rw [cond_false]; exact hh
    · rw [cond_true]; exact hh
theorem C60l (k n : Nat) (l : List T) (s : Bs) (N : Nat) (hN : N ≤ 1000000) (hs : s.length ≤ N) (hk : N + (n + 1) + 30 ≤ k + 3 + 1) (hΓ : ∀ t ∈ l, ∀ q : Bs, q.length ≤ N → Res60 (readW n t q) (Ak (k + 3) 60 [t.v, sV (ba q)] [])) (h0 : 0 < l.length) : Res60 (match cutP [91] s with | none => none | some r => match cutP [93] r with | some r2 => some (.mk 4 0 [], r2) | none => (loopW (fun _ q => readW n (l.getD 0 default) q) [93] (r.length + 1) r []).map fun x => (W.mk 4 0 x.1, x.2)) (q60_4 (Ak (k + 3)) (k + 3) (ba s) (ba [91]) (ba [93]) 4 (T.rows l) 0 0 4 0) := by
  rw [q60_4_eq]
  show Res60 _ (r_t2oSoB (Ak (k + 3) 65 [sV (ba s), sV (ba [91])] []) [] _)
  rw [C65, cutV, g_t2oSoB]
  show Res60 _ (r_t2oSoB (Ak (k + 3) 65 [sV (ba ((cutP [91] s).getD s)), sV (ba [93])] []) [] _)
  rw [C65, cutV, g_t2oSoB, q60_5_eq]
  cases hc : cutP [91] s with
  | none =>
    simp only [Option.isSome_none, cond_false]
    exact L60f (k + 2) _ _ _ _ _ _
  | some r =>
    have h5 := congrArg List.length (cutP_some hc)
    rw [List.length_append, List.length_cons, List.length_nil] at h5
    have hh := L60s k n 4 l [93] (k + 3) N hN (fun i q => readW n (l.getD 0 default) q) (.inr rfl) h0 (fun i q => by rw [if_neg (by decide)]) hΓ (k + 3) r (by omega) (by omega)
    rw [Option.isSome_some, cond_true, Option.getD_some, O8.int_eqb, decide_eq_true (show (4 : Int) = 4 from rfl), cond_true]
    show Res60 (match cutP [93] r with | some r2 => some (W.mk 4 0 [], r2) | none => (loopW (fun _ q => readW n (l.getD 0 default) q) [93] (r.length + 1) r []).map fun x => (W.mk 4 0 x.1, x.2)) _
    cases hb : cutP [93] r with
    | some r2 =>
      rw [Option.isSome_some, cond_true, Option.getD_some]
      exact Res60.ok (v := .mk 4 0 [])
    | none =>
      rw [Option.isSome_none, cond_false]
      exact hh
theorem C60 : ∀ (n k : Nat) (t : T) (s : Bs) (N : Nat), deepT n t = true → N ≤ 1000000 → s.length ≤ N → N + n + 30 ≤ k → Res60 (readW n t s) (Ak k 60 [t.v, sV (ba s)] []) := by
  intro n
  induction n with
  | zero => intro k t s N h; cases h
  | succ n ihn =>
    intro k t s N hd hN hs hk
    obtain ⟨κ, l⟩ := t
    obtain ⟨k, rfl⟩ : ∃ k', k = k' + 3 + 1 := ⟨k - 4, by omega⟩
    have hc := call60 (k + 3) κ (T.rows l) (ba s)
    rw [e60_eq] at hc
    rw [show Ak (k + 3 + 1) 60 [(T.mk κ l).v, sV (ba s)] [] = _ from hc, O8.int_eqb, O8.int_eqb]
    clear hc
    unfold readW
    unfold deepT at hd
    by_cases h1 : κ = 1
    · subst h1
      rw [decide_eq_true rfl, cond_true, if_pos rfl]
      show Res60 _ (r_t2oSoB (Ak (k + 3) 65 [sV (ba s), sV (ba trueB)] []) [] _)
      rw [C65, cutV, g_t2oSoB]
      unfold readB
      cases hc : cutP trueB s with
      | some r => exact Res60.ok (v := .mk 1 1 [])
      | none =>
        simp only [Option.isSome_none, cond_false]
        rw [q60_0_eq]
        show Res60 _ (r_t2oSoB (Ak (k + 3) 65 [sV (ba s), sV (ba falseB)] []) [] _)
        rw [C65, cutV, g_t2oSoB]
        cases hc2 : cutP falseB s with
        | some r => exact Res60.ok (v := .mk 1 0 [])
        | none => exact Res60.fail (v' := .mk 1 0 [])
    · rw [decide_eq_false h1, cond_false, if_neg h1]
      by_cases h2 : κ = 2
      · subst h2
        rw [decide_eq_true rfl, cond_true, if_pos rfl]
        have := L60n (Ak (k + 3)) s (by omega) (k + 3) 2 (k + 3) 0 (by omega) (by omega) (by omega)
        rw [show l60_0 (k + 3) (Ak (k + 3)) (k + 3) (ba s) 0 0 0 2 0 = _ from this]
        rw [List.drop_zero, Nat.zero_add]
        exact C60n (k + 2) s (by omega)
      · rw [decide_eq_false h2, cond_false, if_neg h2, q60_3_eq]
        rw [if_neg (fun q => q.elim h1 h2)] at hd
        have hΓ : ∀ t ∈ l, deepT n t = true → ∀ q : Bs, q.length ≤ N → Res60 (readW n t q) (Ak (k + 3) 60 [t.v, sV (ba q)] []) := fun t ht hdt q hq => ihn (k + 3) t q N hdt hN hq (by omega)
        by_cases h3 : κ = 3
        · rw [if_pos h3] at hd
          simp only [Bool.and_eq_true, decide_eq_true_eq, List.all_eq_true] at hd
          subst h3
          rw [if_pos rfl]
          exact C60t k n l s N hN hs hk (fun t ht => hΓ t ht (hd.2 t ht)) (by omega)
        · rw [if_neg h3] at hd
          by_cases h4 : κ = 4
          · rw [if_pos h4] at hd
            simp only [Bool.and_eq_true, decide_eq_true_eq, List.all_eq_true] at hd
            subst h4
            rw [if_neg h3]
            exact C60l k n l s N hN hs hk (fun t ht => hΓ t ht (hd.2 t ht)) (by omega)
          · rw [if_neg h4] at hd
            cases hd
/-! ### Parse -/
def parW (x : Option W) : V := match x with
  | some v => .tup [v.v, iV 0]
  | none => .tup [W.v (.mk 0 0 []), iV 33]
def parWo (t : T) (s : Bs) : V := if deepT 40 t then parW (parseV t s) else .tup [W.v (.mk 0 0 []), iV 1]
theorem sizes_text (l : List W) (h : ∀ v ∈ l, v.size ≤ (textW v).length) : W.sizes l ≤ (Lib.join (l.map textW) sepB).length := by
  induction l with
  | nil => rw [W.sizes]; omega
  | cons a l ih =>
    have h1 := h a (by simp)
    have h2 := ih (fun t ht => h t (by simp [ht]))
    cases l with
    | nil => rw [List.map_cons, List.map_nil, Lib.join_one, W.sizes, W.sizes]; omega
    | cons b l => rw [List.map_cons, List.map_cons, join_two, List.length_append, List.length_append, ← List.map_cons, W.sizes]; omega
theorem readB_size {s r : Bs} {v : W} (h : readB s = some (v, r)) : v.size ≤ (textW v).length := by
  unfold readB at h
  split at h
  · cases h; rw [textW, W.size, W.sizes]; decide
  · rw [Option.map_eq_some_iff] at h
    obtain ⟨q, _, h⟩ := h
    cases h; rw [textW, W.size, W.sizes]; decide
theorem itoa_pos_len (v : Int) : 1 ≤ (Lib.itoa v).length := by
  obtain ⟨c, r, e, _⟩ := textW_head (.mk 2 v [])
  rw [textW, if_neg (by decide), if_pos rfl] at e
  rw [e]; simp
theorem loopW_size {rd : Nat → Bs → Option (W × Bs)} {fin : Bs} (hr : ∀ i s x r, rd i s = some (x, r) → x.size ≤ (textW x).length) : ∀ (f : Nat) (s : Bs) (acc l : List W) (r : Bs), loopW rd fin f s acc = some (l, r) → (∀ v ∈ acc, v.size ≤ (textW v).length) → ∀ v ∈ l, v.size ≤ (textW v).length
  | 0, _, _, _, _, h, _ => by cases h
  | f + 1, s, acc, l, r, h, ha => by
    unfold loopW at h
    split at h
    · cases h
    · rename_i t r1 ht
      have ha2 : ∀ x ∈ acc ++ [t], x.size ≤ (textW x).length := fun x hx => by
        rcases List.mem_append.1 hx with hx | hx
        · exact ha x hx
        · rw [List.mem_singleton] at hx; subst hx; exact hr _ _ _ _ ht
      split at h
      · cases h; exact ha2
      · split at h
        · cases h
        · exact loopW_size hr _ _ _ _ _ h ha2
theorem readW_size : ∀ (n : Nat) (t : T) (s : Bs) (v : W) (r : Bs), readW n t s = some (v, r) → v.size ≤ (textW v).length
  | 0, _, _, _, _, h => by cases h
  | n + 1, .mk k l, s, v, r, h => by
    unfold readW at h
    split at h
    · exact readB_size h
    · split at h
      · rw [Option.map_eq_some_iff] at h
        obtain ⟨x, hx, h⟩ := h
        cases h
        rw [textW, W.size, W.sizes, if_neg (by decide), if_pos rfl]
        exact itoa_pos_len _
      · split at h
        · split at h
          · cases h
          · rw [Option.map_eq_some_iff] at h
            obtain ⟨⟨l', q⟩, hl, h⟩ := h
            cases h
            have := sizes_text l' (loopW_size (fun i s x r hx => by
              split at hx
              · cases hx
              · exact readW_size n _ s x r hx) _ _ _ _ _ hl (fun v hv => by cases hv))
            rw [textW, W.size, if_neg (by decide), if_neg (by decide), if_pos rfl, textWs_map]
            simp only [List.length_append, List.length_cons, List.length_nil]
            omega
        · split at h
          · cases h
          · split at h
            · cases h; rw [textW, W.size, W.sizes]; simp
            · rw [Option.map_eq_some_iff] at h
              obtain ⟨⟨l', q⟩, hl, h⟩ := h
              cases h
              have := sizes_text l' (loopW_size (fun i s x r hx => readW_size n _ s x r hx) _ _ _ _ _ hl (fun v hv => by cases hv))
              rw [textW, W.size, if_neg (by decide), if_neg (by decide), if_neg (by decide), if_pos rfl, textWs_map]
              simp only [List.length_append, List.length_cons, List.length_nil]
              omega
theorem has_size : ∀ (n : Nat) (t : T) (v : W), deepT n t = true → hasT n t v = true → v.size ≤ (textW v).length
  | 0, _, _, h, _ => by cases h
  | n + 1, .mk k l, .mk k' m vs, hd, hh => by
    unfold hasT at hh
    rw [Bool.and_eq_true, decide_eq_true_eq] at hh
    obtain ⟨rfl, hh⟩ := hh
    unfold deepT at hd
    rw [W.size, textW, textWs_map]
    by_cases h1 : k' = 1
    · rw [if_pos h1] at hh ⊢
      rw [Bool.and_eq_true] at hh
      obtain rfl : vs = [] := List.isEmpty_iff.1 hh.2
      rw [W.sizes]
      split
      · rw [show falseB.length = 5 from rfl]; omega
      · rw [show trueB.length = 4 from rfl]; omega
    · rw [if_neg h1] at hh ⊢
      by_cases h2 : k' = 2
      · rw [if_pos h2] at hh ⊢
        rw [Bool.and_eq_true] at hh
        obtain rfl : vs = [] := List.isEmpty_iff.1 hh.2
        have := itoa_pos_len m
        rw [W.sizes]; omega
      · rw [if_neg h2] at hh ⊢
        rw [if_neg (fun q => q.elim h1 h2)] at hd
        by_cases h3 : k' = 3
        · rw [if_pos h3] at hh hd ⊢
          simp only [Bool.and_eq_true, decide_eq_true_eq, List.all_eq_true] at hd hh
          have := sizes_text vs (fun v hv => by
            obtain ⟨i, hi, rfl⟩ := List.getElem_of_mem hv
            obtain ⟨z1, z2⟩ := all2_at _ _ _ hh.2 i hi
            exact has_size n _ _ (hd.2 _ (getD_mem l i z1)) z2)
          simp only [List.length_append, List.length_cons, List.length_nil]
          omega
        · rw [if_neg h3] at hh hd ⊢
          by_cases h4 : k' = 4
          · rw [if_pos h4] at hd ⊢
            simp only [Bool.and_eq_true, decide_eq_true_eq, List.all_eq_true] at hd hh
            obtain ⟨a, rfl⟩ : ∃ a, l = [a] := by
              match l, hd.1 with
              | [a], _ => exact ⟨a, rfl⟩
            have := sizes_text vs (fun v hv => has_size n a v (hd.2 a (by simp)) (hh.2 v hv))
            simp only [List.length_append, List.length_cons, List.length_nil]
            omega
          · rw [if_neg h4] at hd
            cases hd
theorem C34 (k : Nat) (t : T) (s : Bs) (hs : s.length ≤ 50000) (hk : 300000 ≤ k) : Ak k 34 [t.v, sV (ba s)] [] = some (R (parWo t s)) := by
  obtain ⟨k, rfl⟩ : ∃ k', k = k' + 1 := ⟨k - 1, by omega⟩
  refine (call34 k t.k (T.rows t.l) (ba s)).trans ?_
  have h16 := C16 k (by omega) t
  unfold T.v at h16
  rw [e34_eq, h16, g_oB]
  unfold parWo
  cases hd : deepT 40 t with
  | false => rfl
  | true =>
    rw [Bool.not_true, cond_false, if_pos rfl, q34_0_eq]
    obtain ⟨v', r', ho, he⟩ := C60 40 k t s 50000 hd (by omega) hs (by omega)
    unfold T.v at ho
    rw [ho, W.v, g_t3a3IIL3oSoB]
    unfold parseV
    cases hr : readW 40 t s with
    | none => rfl
    | some p =>
      obtain ⟨v, r⟩ := p
      obtain ⟨rfl, rfl⟩ := he v r hr
      rw [Option.isSome_some, Bool.not_true, cond_false, show ByteArray.mk #[] = ba [] from rfl, ba_list, ba_list, beqL_eq]
      cases r' with
      | cons c q => rfl
      | nil =>
        have hz := readW_size _ _ _ _ _ hr
        have hz2 := congrArg List.length (readW_inv _ _ _ _ _ hr)
        rw [List.length_append] at hz2
        have h24 := C24 k t v' (by omega) (by omega)
        unfold T.v W.v at h24
        rw [decide_eq_true rfl, Bool.not_true, cond_false, h24, g_oB, q34_1_eq]
        show _ = some (R (parW (if hasV t v' then some v' else none)))
        rw [show hasV t v' = hasP t v' from rfl]
        cases hasP t v' <;> rfl
end
end Go.Proofs.YtkpdofiflhjahaaDoor.Ps
