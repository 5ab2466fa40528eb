/- Values: their texts, by the program and by the reference. -/
import Derived.Test.YtkpdofiflhjahaaDoorF8
import Derived.Test.YtkpdofiflhjahaaDoorFA
import Derived.Test.YtkpdofiflhjahaaDoorVx
import Derived.Test.YtkpdofiflhjahaaDoorPvV
import Derived.Test.YtkpdofiflhjahaaDoorVg
import Derived.Test.YtkpdofiflhjahaaDoorFB
namespace Go.Proofs.YtkpdofiflhjahaaDoor.Ps
section
set_option linter.unusedVariables false
set_option linter.unusedSimpArgs false
open Go Go.RowKit
theorem itoa_len64 {v : Int} (h0 : -9223372036854775808 ≤ v) (h1 : v ≤ 9223372036854775807) : (Lib.itoa v).length ≤ 20 := by
  by_cases h : v < 0
  · rw [itoa_min h, List.length_cons]
    have := decDigits_len 18 v.natAbs (by omega)
    omega
  · rw [itoa_pos (by omega)]
    have := decDigits_len 18 v.toNat (by omega)
    omega
theorem W.Ok.num {k n : Int} {l : List W} (h : W.Ok (.mk k n l)) : -9223372036854775808 ≤ n ∧ n ≤ 9223372036854775807 := by
  cases h with
  | mk _ _ _ h0 h1 _ => exact ⟨h0, h1⟩
theorem W.Ok.kids {k n : Int} {l : List W} (h : W.Ok (.mk k n l)) : ∀ c ∈ l, W.Ok c := by
  cases h with
  | mk _ _ _ _ _ hl => exact hl
theorem join_textWs_of (l : List W) (h : ∀ t ∈ l, (textW t).length + 2 ≤ 24 * t.size) : (Lib.join (textWs l) sepB).length ≤ 24 * W.sizes l := by
  induction l with
  | nil => rw [textWs, W.sizes, Lib.join_nil]; simp
  | cons a r ih =>
    have h1 := h a (by simp)
    cases r with
    | nil => rw [textWs, textWs, Lib.join_one, W.sizes, W.sizes]; omega
    | cons b r =>
      have h2 := ih (fun t ht => h t (by simp at ht ⊢; exact .inr ht))
      rw [textWs, textWs, join_two, List.length_append, List.length_append, ← textWs, W.sizes]
      have : sepB.length = 2 := rfl
      omega
theorem textW_len : ∀ t : W, W.Ok t → (textW t).length + 2 ≤ 24 * t.size := by
  suffices ∀ n, ∀ t : W, t.size ≤ n → W.Ok t → (textW t).length + 2 ≤ 24 * t.size from fun t => this _ t (Nat.le_refl _)
  intro n
  induction n with
  | zero => intro t h; have := t.size_pos; omega
  | succ n ih =>
    intro t h ok
    obtain ⟨κ, m, l⟩ := t
    have hsz : (W.mk κ m l).size = 1 + W.sizes l := by rw [W.size]
    have h5 := join_textWs_of l (fun t ht => ih t (by have := W.mem_size ht; omega) (ok.kids t ht))
    have h6 := itoa_len64 ok.num.1 ok.num.2
    unfold textW
    split
    · split
      · rw [show falseB.length = 5 from rfl]; omega
      · rw [show trueB.length = 4 from rfl]; omega
    · split
      · omega
      · split
        · simp only [List.length_append, List.length_cons, List.length_nil]; omega
        · split
          · simp only [List.length_append, List.length_cons, List.length_nil]; omega
          · simp only [List.length_cons, List.length_nil]; omega
theorem join_textWs_len (l : List W) (h : ∀ t ∈ l, W.Ok t) : (Lib.join (textWs l) sepB).length ≤ 24 * W.sizes l := join_textWs_of l fun t ht => textW_len t (h t ht)
/-! ### numbers -/
theorem wrap_u64 (n : Int) (h : 0 ≤ n) (h' : n ≤ 18446744073709551615) : IntKind.wrap .u64 n = n := by
  have e1 : IntKind.bits .u64 = 64 := rfl
  have e2 : IntKind.signed .u64 = false := rfl
  have e3 : (2 ^ 64 : Int) = 18446744073709551616 := rfl
  unfold IntKind.wrap
  simp only [e1, e2, e3]
  simp
  omega
theorem wrap_u8 (n : Int) (h : 0 ≤ n) (h' : n ≤ 255) : IntKind.wrap .u8 n = n := by
  have e1 : IntKind.bits .u8 = 8 := rfl
  have e2 : IntKind.signed .u8 = false := rfl
  have e3 : (2 ^ 8 : Int) = 256 := rfl
  unfold IntKind.wrap
  simp only [e1, e2, e3]
  simp
  omega
theorem C63 (k : Nat) (n : Int) (h0 : -9223372036854775808 ≤ n) (h1 : n ≤ 9223372036854775807) : Ak (k + 1) 63 [iV n] [] = some (R (sV (ba (Lib.itoa n)))) := by
  have e : Ak (k + 1) 63 [iV n] [] = cond (decide (-9223372036854775808 ≤ n) && decide (n ≤ 9223372036854775807)) (some (R (dv (.str ⟨(Lib.itoa n).toArray⟩)))) none := rfl
  rw [e, decide_eq_true h0, decide_eq_true h1]
  rfl
theorem C82 : ∀ (k u : Nat), u < 10 ^ (k + 1) → u < 18446744073709551616 → Ak (k + 1) 82 [V.one (X.d (D.int IntKind.u64 (u : Int)))] [] = some (R (sV (ba (Lib.decDigits u))))
  | k, u, h, h2 => by
    refine (call82 k (u : Int)).trans ?_
    have hch : (ByteArray.mk #[UInt8.ofNat (Int.toNat (IntKind.wrap .u8 (IntKind.wrap .u64 (48 + Int.tmod (u : Int) 10))))]) = ba [UInt8.ofNat (48 + u % 10)] := by
      have e : (48 + Int.tmod (u : Int) 10) = ((48 + u % 10 : Nat) : Int) := by
        rw [Int.tmod_eq_emod_of_nonneg (by omega)]; omega
      rw [e, wrap_u64 _ (by omega) (by omega), wrap_u8 _ (by omega) (by omega)]
      rfl
    rw [e82_eq]
    by_cases h10 : u < 10
    · rw [decide_eq_false (show ¬ (u : Int) ≥ 10 by omega), cond_false, q82_0_eq, hch, show ByteArray.mk #[] = ba [] from rfl, ba_size, ba_size, ble_t (by simp), cond_true, ba_app, Lib.decDigits_one h10, show u % 10 = u by omega]
      rfl
    · obtain ⟨k, rfl⟩ : ∃ k', k = k' + 1 := ⟨k - 1, by
        cases k with
        | zero => simp at h; omega
        | succ k => omega⟩
      have hu : u / 10 < 10 ^ (k + 1) := by rw [Nat.pow_succ] at h; omega
      have ih := C82 k (u / 10) hu (by omega)
      have hl := decDigits_len 19 (u / 10) (by omega)
      have e : Int.tdiv (u : Int) 10 = ((u / 10 : Nat) : Int) := by rw [Int.tdiv_eq_ediv_of_nonneg (by omega)]; omega
      rw [decide_eq_true (show (u : Int) ≥ 10 by omega), cond_true, e, wrap_u64 _ (by omega) (by omega), ih, g_oS, q82_0_eq, hch, ba_size, ba_size, ble_t (by simp only [List.length_cons, List.length_nil]; omega), cond_true, ba_app, ← decDigits_step h10]
theorem C82b (k u : Nat) (hk : 25 ≤ k) (hu : u < 18446744073709551616) : Ak k 82 [V.one (X.d (D.int IntKind.u64 (u : Int)))] [] = some (R (sV (ba (Lib.decDigits u)))) := by
  obtain ⟨k, rfl⟩ : ∃ k', k = k' + 1 := ⟨k - 1, by omega⟩
  have h1 : 10 ^ 21 ≤ 10 ^ (k + 1) := Nat.pow_le_pow_right (by omega) (by omega)
  have h2 : (10 ^ 21 : Nat) = 1000000000000000000000 := by decide
  exact C82 k u (by omega) hu
theorem C64 (k : Nat) (n : Int) (h0 : -9223372036854775808 ≤ n) (h1 : n ≤ 9223372036854775807) (hk : 30 ≤ k) : Ak k 64 [iV n] [] = some (R (sV (ba (Lib.itoa n)))) := by
  obtain ⟨k, rfl⟩ : ∃ k', k = k' + 1 := ⟨k - 1, by omega⟩
  refine (call64 k n).trans ?_
  rw [e64_eq]
  by_cases h : n < 0
  · have hl := decDigits_len 19 n.natAbs (by omega)
    rw [decide_eq_true h, cond_true, wrap_in (n + 1) (by omega) (by omega), wrap_in (0 - (n + 1)) (by omega) (by omega), wrap_u64 (0 - (n + 1)) (by omega) (by omega), wrap_u64 _ (by omega) (by omega),
      show 0 - (n + 1) + 1 = ((n.natAbs : Nat) : Int) by omega, C82b k n.natAbs (by omega) (by omega), g_oS, ba_size, ble_t (by omega), cond_true, show ByteArray.mk #[45] = ba [45] from rfl, ba_app, itoa_min h]
    rfl
  · rw [decide_eq_false h, cond_false, q64_0_eq, wrap_u64 n (by omega) (by omega), show n = ((n.toNat : Nat) : Int) by omega, C82b k n.toNat (by omega) (by omega), g_oS, itoa_pos (by omega)]
    rfl
/-! ### by the program -/
theorem C62 (k : Nat) (n : Int) : Ak (k + 2) 62 [V.one (X.d (D.bool (n != 0)))] [] = some (R (sV (ba (if n = 0 then falseB else trueB)))) := by
  refine (call62 (k + 1) (n != 0)).trans ?_
  rw [e62_eq, show Ak (k + 1) 80 [V.one (X.d (D.bool (n != 0)))] [] = _ from call80 k (n != 0), e80_eq, q80_0_eq, int_neb]
  by_cases h : n = 0
  · rw [decide_eq_true h, if_pos h]; rfl
  · rw [decide_eq_false h, if_neg h]; rfl
theorem fin36 (k : Nat) (κ n : Int) (x : Bs) (h0 : -9223372036854775808 ≤ n) (h1 : n ≤ 9223372036854775807) (hx : x.length ≤ 1000000000) :
    (bif κ == 1 then r_oS (Ak (k + 2) 62 [V.one (X.d (D.bool (n != 0)))] []) [] fun u1_ => some (Out.mk true (V.one (X.d (D.str u1_))) D.junk [] 0) else bif κ == 2 then r_oS (Ak (k + 2) 63 [V.one (X.d (D.int IntKind.i64 n))] []) [] fun u2_ => some (Out.mk true (V.one (X.d (D.str u2_))) D.junk [] 0)
      else bif κ == 3 then bif Nat.ble (1 + ByteArray.size (ba x)) 9223372036854775807 then bif Nat.ble (ByteArray.size (ByteArray.mk #[40] ++ ba x) + 1) 9223372036854775807 then some (Out.mk true (V.one (X.d (D.str (ByteArray.mk #[40] ++ ba x ++ ByteArray.mk #[41])))) D.junk [] 0) else none else none
      else bif κ == 4 then bif Nat.ble (1 + ByteArray.size (ba x)) 9223372036854775807 then bif Nat.ble (ByteArray.size (ByteArray.mk #[91] ++ ba x) + 1) 9223372036854775807 then some (Out.mk true (V.one (X.d (D.str (ByteArray.mk #[91] ++ ba x ++ ByteArray.mk #[93])))) D.junk [] 0) else none else none else q36_3 (Ak (k + 2)) (k + 2)) =
    some (R (sV (ba (if κ = 1 then (if n = 0 then falseB else trueB) else if κ = 2 then Lib.itoa n else if κ = 3 then [40] ++ x ++ [41] else if κ = 4 then [91] ++ x ++ [93] else [63])))) := by
  have e40 : (ByteArray.mk #[40]) = ba [40] := rfl
  have e41 : (ByteArray.mk #[41]) = ba [41] := rfl
  have e91 : (ByteArray.mk #[91]) = ba [91] := rfl
  have e93 : (ByteArray.mk #[93]) = ba [93] := rfl
  rw [C62 k n, g_oS, show Ak (k + 2) 63 [V.one (X.d (D.int IntKind.i64 n))] [] = _ from C63 (k + 1) n h0 h1, g_oS, e40, e41, e91, e93, ba_app, ba_app, ba_app, ba_app, ba_size, ba_size, ba_size, ble_t (by omega), ble_t (by simp; omega), ble_t (by simp; omega), q36_3_eq]
  simp only [int_eqb]
  by_cases h1 : κ = 1
  · subst h1; rfl
  · by_cases h2 : κ = 2
    · subst h2; rfl
    · by_cases h3 : κ = 3
      · subst h3; rfl
      · by_cases h4 : κ = 4
        · subst h4; rfl
        · rw [decide_eq_false h1, decide_eq_false h2, decide_eq_false h3, decide_eq_false h4, if_neg h1, if_neg h2, if_neg h3, if_neg h4]; rfl
theorem L36 (k : Nat) (κ n : Int) (l : List W) (q : List (List D)) (n2 : Nat) (hl : W.sizes l ≤ 1000000) (h0 : -9223372036854775808 ≤ n) (h1 : n ≤ 9223372036854775807) (hok : ∀ t ∈ l, W.Ok t) (hΓ : ∀ t ∈ l, Ak (k + 2) 36 [t.v] [] = some (R (sV (ba (textW t))))) :
    ∀ (m i : Nat) (acc : List Bs), acc ++ textWs (l.drop i) = textWs l → acc.length ≤ l.length → l.length - i < m → l36_0_v1 m (Ak (k + 2)) (k + 2) (strRows acc) (W.rows l) (Int.ofNat l.length) (Int.ofNat i) κ n q = some (R (sV (ba (textW (.mk κ n l))))) := by
  intro m
  have hlen := W.sizes_len l
  induction m with
  | zero => intro i acc _ _ h; omega
  | succ m ih =>
    intro i acc ha hal h
    rw [l36_0_v1_eq]
    by_cases hi : i < l.length
    · have := hΓ (l.getD i default) (getD_mem l i hi)
      unfold W.v at this
      rw [lt_yes i _ hi, cond_true, q36_0_v1_eq, W.rows_len, in_range i _ hi, cond_true, tn, W.rows_at l i hi, getD0, getD1, getD2, this, g_oS, strRows_len, ble_t (by simp only [List.length_cons, List.length_nil]; omega)]
      have e : strRows acc ++ [[D.str (ba (textW (l.getD i default)))]] = strRows (acc ++ [textW (l.getD i default)]) := by unfold strRows; simp
      rw [e]
      simp only [Bool.and_self, cond_true]
      rw [q36_1_eq, wrap_up i (by omega)]
      have ha2 : (acc ++ [textW (l.getD i default)]) ++ textWs (l.drop (i + 1)) = textWs l := by
        rw [← ha, drop_getD l i hi, textWs]; simp
      refine ih (i + 1) _ ha2 ?_ (by omega)
      have := congrArg List.length ha2
      rw [List.length_append, textWs_map, textWs_map, List.length_map, List.length_map, List.length_drop] at this
      omega
    · rw [lt_no i _ (by omega), cond_false, q36_2_v1_eq]
      have hacc : acc = textWs l := by rw [← ha, List.drop_eq_nil_of_le (by omega), textWs]; simp
      subst hacc
      have hj := join_textWs_len l hok
      have hc := C48 (k + 1) (textWs l) sepB (by rw [textWs_map, List.length_map]; omega) (by omega)
      show r_oS (Ak (k + 1 + 1) 48 [V.one (X.d (D.list 1 (strRows (textWs l)))), V.one (X.d (D.str (ba sepB)))] []) [] _ = _
      rw [hc, g_oS, fin36 k κ n _ h0 h1 (by omega), textW]
theorem C36 : ∀ (k : Nat) (t : W), W.Ok t → t.size ≤ 1000000 → t.size + 6 ≤ k → Ak k 36 [t.v] [] = some (R (sV (ba (textW t))))
  | 0, t, _, _, h => by omega
  | k + 1, .mk κ n l, ok, hs, hk => by
    have hsz : (W.mk κ n l).size = 1 + W.sizes l := by rw [W.size]
    have hlen := W.sizes_len l
    refine (call36 k κ n (W.rows l)).trans ?_
    rw [e36_eq, W.rows_len]
    have hΓ : ∀ t ∈ l, Ak k 36 [t.v] [] = some (R (sV (ba (textW t)))) := fun x hx => C36 k x (ok.kids x hx) (by have := W.mem_size hx; omega) (by have := W.mem_size hx; omega)
    obtain ⟨k, rfl⟩ : ∃ k', k = k' + 2 := ⟨k - 2, by omega⟩
    rw [l36_0_eq]
    by_cases hi : 0 < l.length
    · have := hΓ (l.getD 0 default) (getD_mem l 0 hi)
      unfold W.v at this
      rw [show decide ((0 : Int) < Int.ofNat l.length) = true from lt_yes 0 _ hi, cond_true, q36_0_eq, W.rows_len, show (decide ((0 : Int) ≤ 0) && decide ((0 : Int) < Int.ofNat l.length)) = true from in_range 0 _ hi, cond_true, show Int.toNat 0 = 0 from rfl, W.rows_at l 0 hi, getD0, getD1, getD2, this, g_oS, q36_1_eq, show IntKind.wrap .i64 (0 + 1) = Int.ofNat 1 from wrap_up 0 (by omega), strRows_one]
      exact L36 k κ n l (W.rows l) (k + 2) (by omega) ok.num.1 ok.num.2 ok.kids hΓ (k + 1) 1 [textW (l.getD 0 default)] (by rw [← List.drop_zero (l := l), drop_getD l 0 hi, textWs]; simp) (by simp; omega) (by omega)
    · rw [show decide ((0 : Int) < Int.ofNat l.length) = false from lt_no 0 _ (by omega), cond_false, q36_2_eq]
      have hl0 : l = [] := List.eq_nil_of_length_eq_zero (by omega)
      subst hl0
      show r_oS (Ak (k + 1 + 1) 48 [V.one (X.nilL 1), sV (ba sepB)] []) [] _ = _
      rw [C48n, g_oS, fin36 k κ n [] ok.num.1 ok.num.2 (by simp), textW, textWs, Lib.join_nil]
/-! ### by the reference -/
theorem fin37 (k : Nat) (κ n : Int) (x : Bs) (a : V) (h0 : -9223372036854775808 ≤ n) (h1 : n ≤ 9223372036854775807) (hk : 30 ≤ k) (hx : x.length ≤ 1000000000) (hc : Ak k 49 [a] [] = some (R (sV (ba x)))) :
    (bif κ == 1 then bif n != 0 then some (Out.mk true (V.one (X.d (D.str (ByteArray.mk #[116, 114, 117, 101])))) D.junk [] 0) else q37_3 (Ak k) k else bif κ == 2 then r_oS (Ak k 64 [V.one (X.d (D.int IntKind.i64 n))] []) [] fun u1_ => some (Out.mk true (V.one (X.d (D.str u1_))) D.junk [] 0)
      else bif κ == 3 then r_oS (Ak k 49 [a] []) [] fun u1_ => bif Nat.ble (1 + ByteArray.size u1_) 9223372036854775807 then bif Nat.ble (ByteArray.size (ByteArray.mk #[40] ++ u1_) + 1) 9223372036854775807 then some (Out.mk true (V.one (X.d (D.str (ByteArray.mk #[40] ++ u1_ ++ ByteArray.mk #[41])))) D.junk [] 0) else none else none
      else bif κ == 4 then r_oS (Ak k 49 [a] []) [] fun u2_ => bif Nat.ble (1 + ByteArray.size u2_) 9223372036854775807 then bif Nat.ble (ByteArray.size (ByteArray.mk #[91] ++ u2_) + 1) 9223372036854775807 then some (Out.mk true (V.one (X.d (D.str (ByteArray.mk #[91] ++ u2_ ++ ByteArray.mk #[93])))) D.junk [] 0) else none else none else q37_4 (Ak k) k) =
    some (R (sV (ba (if κ = 1 then (if n = 0 then falseB else trueB) else if κ = 2 then Lib.itoa n else if κ = 3 then [40] ++ x ++ [41] else if κ = 4 then [91] ++ x ++ [93] else [63])))) := by
  have e40 : (ByteArray.mk #[40]) = ba [40] := rfl
  have e41 : (ByteArray.mk #[41]) = ba [41] := rfl
  have e91 : (ByteArray.mk #[91]) = ba [91] := rfl
  have e93 : (ByteArray.mk #[93]) = ba [93] := rfl
  rw [hc, g_oS, g_oS, show Ak k 64 [V.one (X.d (D.int IntKind.i64 n))] [] = _ from C64 k n h0 h1 hk, g_oS, e40, e41, e91, e93, ba_app, ba_app, ba_app, ba_app, ba_size, ba_size, ba_size, ble_t (by omega), ble_t (by simp; omega), ble_t (by simp; omega), q37_3_eq, q37_4_eq]
  simp only [int_eqb, int_neb]
  by_cases h1 : κ = 1
  · subst h1
    by_cases h : n = 0
    · rw [decide_eq_true h, if_pos h]; rfl
    · rw [decide_eq_false h, if_neg h]; rfl
  · by_cases h2 : κ = 2
    · subst h2; rfl
    · by_cases h3 : κ = 3
      · subst h3; rfl
      · by_cases h4 : κ = 4
        · subst h4; rfl
        · rw [decide_eq_false h1, decide_eq_false h2, decide_eq_false h3, decide_eq_false h4, if_neg h1, if_neg h2, if_neg h3, if_neg h4]; rfl
theorem L37 (k : Nat) (κ n : Int) (l : List W) (hl : W.sizes l ≤ 1000000) (h0 : -9223372036854775808 ≤ n) (h1 : n ≤ 9223372036854775807) (hk : l.length + 33 ≤ k) (hok : ∀ t ∈ l, W.Ok t) (hΓ : ∀ t ∈ l, Ak k 37 [t.v] [] = some (R (sV (ba (textW t))))) :
    ∀ (m i : Nat) (acc : List Bs), acc ++ textWs (l.drop i) = textWs l → acc.length ≤ l.length → l.length - i < m → l37_0_v1 m (Ak k) k (strRows acc) (Int.ofNat i) κ n (W.rows l) = some (R (sV (ba (textW (.mk κ n l))))) := by
  intro m
  have hlen := W.sizes_len l
  induction m with
  | zero => intro i acc _ _ h; omega
  | succ m ih =>
    intro i acc ha hal h
    rw [l37_0_v1_eq, W.rows_len]
    by_cases hi : i < l.length
    · have := hΓ (l.getD i default) (getD_mem l i hi)
      unfold W.v at this
      rw [lt_yes i _ hi, cond_true, q37_0_v1_eq, W.rows_len, in_range i _ hi, cond_true, tn, W.rows_at l i hi, getD0, getD1, getD2, this, g_oS, strRows_len, ble_t (by simp only [List.length_cons, List.length_nil]; omega)]
      have e : strRows acc ++ [[D.str (ba (textW (l.getD i default)))]] = strRows (acc ++ [textW (l.getD i default)]) := by unfold strRows; simp
      rw [e]
      simp only [Bool.and_self, cond_true]
      rw [q37_1_eq, wrap_up i (by omega)]
      have ha2 : (acc ++ [textW (l.getD i default)]) ++ textWs (l.drop (i + 1)) = textWs l := by
        rw [← ha, drop_getD l i hi, textWs]; simp
      refine ih (i + 1) _ ha2 ?_ (by omega)
      have := congrArg List.length ha2
      rw [List.length_append, textWs_map, textWs_map, List.length_map, List.length_map, List.length_drop] at this
      omega
    · rw [lt_no i _ (by omega), cond_false, q37_2_v1_eq]
      have hacc : acc = textWs l := by rw [← ha, List.drop_eq_nil_of_le (by omega), textWs]; simp
      subst hacc
      have hj := join_textWs_len l hok
      have hll : (textWs l).length = l.length := by rw [textWs_map, List.length_map]
      rw [fin37 k κ n _ _ h0 h1 (by omega) (by omega) (C49 k (textWs l) (by omega) (by omega) (by omega)), textW]
theorem C37 : ∀ (k : Nat) (t : W), W.Ok t → t.size ≤ 1000000 → t.size + 40 ≤ k → Ak k 37 [t.v] [] = some (R (sV (ba (textW t))))
  | 0, t, _, _, h => by omega
  | k + 1, .mk κ n l, ok, hs, hk => by
    have hsz : (W.mk κ n l).size = 1 + W.sizes l := by rw [W.size]
    have hlen := W.sizes_len l
    refine (call37 k κ n (W.rows l)).trans ?_
    rw [e37_eq]
    have hΓ : ∀ t ∈ l, Ak k 37 [t.v] [] = some (R (sV (ba (textW t)))) := fun x hx => C37 k x (ok.kids x hx) (by have := W.mem_size hx; omega) (by have := W.mem_size hx; omega)
    obtain ⟨k, rfl⟩ : ∃ k', k = k' + 2 := ⟨k - 2, by omega⟩
    rw [l37_0_eq, W.rows_len]
    by_cases hi : 0 < l.length
    · have := hΓ (l.getD 0 default) (getD_mem l 0 hi)
      unfold W.v at this
      rw [show decide ((0 : Int) < Int.ofNat l.length) = true from lt_yes 0 _ hi, cond_true, q37_0_eq, W.rows_len, show (decide ((0 : Int) ≤ 0) && decide ((0 : Int) < Int.ofNat l.length)) = true from in_range 0 _ hi, cond_true, show Int.toNat 0 = 0 from rfl, W.rows_at l 0 hi, getD0, getD1, getD2, this, g_oS, q37_1_eq, show IntKind.wrap .i64 (0 + 1) = Int.ofNat 1 from wrap_up 0 (by omega), strRows_one]
      exact L37 (k + 2) κ n l (by omega) ok.num.1 ok.num.2 (by omega) ok.kids hΓ (k + 1) 1 [textW (l.getD 0 default)] (by rw [← List.drop_zero (l := l), drop_getD l 0 hi, textWs]; simp) (by simp; omega) (by omega)
    · rw [show decide ((0 : Int) < Int.ofNat l.length) = false from lt_no 0 _ (by omega), cond_false, q37_2_eq]
      have hl0 : l = [] := List.eq_nil_of_length_eq_zero (by omega)
      subst hl0
      rw [fin37 (k + 2) κ n [] _ ok.num.1 ok.num.2 (by omega) (by simp) (C49n k), textW, textWs, Lib.join_nil]
end
section
set_option linter.unusedVariables false
set_option linter.unusedSimpArgs false
open Go Go.RowKit
theorem ba_get (s : Bs) (i : Nat) (h : i < s.length) : (ba s).get! i = s.getD i 0 := by
  unfold ba ByteArray.get!
  simp [h]
theorem drop_get (s : Bs) (i : Nat) (h : i < s.length) : s.drop i = s.getD i 0 :: s.drop (i + 1) := by
  rw [List.drop_eq_getElem_cons h, List.getD_eq_getElem?_getD, List.getElem?_eq_getElem h]; rfl
theorem atoi_range {l : Bs} {v : Int} (h : Lib.atoiAll l = .ok v) : -9223372036854775808 ≤ v ∧ v ≤ 9223372036854775807 := by
  unfold Lib.atoiAll at h
  split at h
  · cases h
  · dsimp only at h
    split at h
    · cases h
    · cases h
    · split at h
      · cases h
      · split at h
        · cases h
        · injection h with h
          split at h <;> omega
theorem C78 (k : Nat) (s : Bs) (h : s.length ≤ 1000000) : Ak (k + 1) 78 [sV (ba s)] [] = some (R (atoiO (ba s))) := by
  have e : Ak (k + 1) 78 [sV (ba s)] [] = cond (Nat.ble (ba s).size 281474976710656) (some (R (atoiO (ba s)))) none := rfl
  rw [e, ba_size, Nat.ble_eq_true_of_le (by omega)]
  rfl
/-! ### a number -/
theorem L60n (Γ : SemL) (s : Bs) (hs : s.length ≤ 1000000) (n2 : Nat) (κ : Int) : ∀ (m i : Nat), i ≤ 11 → 11 - i < m → i ≤ s.length →
    l60_0 m Γ n2 (ba s) (Int.ofNat i) 0 0 κ 0 = q60_2 Γ n2 (ba s) (Int.ofNat (i + (spanN (11 - i) (s.drop i)).length)) 0 0 κ 0 := by
  intro m
  induction m with
  | zero => intro i _ h; omega
  | succ m ih =>
    intro i h11 hm hi
    rw [l60_0_eq, ba_size]
    by_cases h1 : i < s.length
    · rw [lt_yes i _ h1, cond_true]
      by_cases h2 : i < 11
      · rw [decide_eq_true (show Int.ofNat i < 11 by simp only [Int.ofNat_eq_natCast]; omega), cond_true, show decide ((0 : Int) ≤ Int.ofNat i) = true from decide_eq_true (Int.natCast_nonneg i), tn, ba_get s i h1]
        simp only [Bool.and_self, cond_true]
        obtain ⟨j, hj⟩ : ∃ j, 11 - i = j + 1 := ⟨10 - i, by omega⟩
        rw [hj, drop_get s i h1]
        unfold spanN
        generalize hc : s.getD i 0 = c
        have step : q60_1 Γ m n2 (ba s) (Int.ofNat i) 0 0 κ 0 = q60_2 Γ n2 (ba s) (Int.ofNat (i + (c :: spanN j (s.drop (i + 1))).length)) 0 0 κ 0 := by
          rw [q60_1_eq, wrap_up i (by omega), ih (i + 1) (by omega) (by omega) (by omega), show 11 - (i + 1) = j by omega, List.length_cons, show i + 1 + (spanN j (s.drop (i + 1))).length = i + ((spanN j (s.drop (i + 1))).length + 1) by omega]
        by_cases h45 : c.toNat = 45
        · have e : (Int.ofNat c.toNat == 45) = true := by rw [h45]; rfl
          rw [e, cond_true, step, if_pos (by unfold numC; rw [decide_eq_true h45]; rfl)]
        · have e : (Int.ofNat c.toNat == 45) = false := by rw [O8.int_eqb]; exact decide_eq_false (by simp only [Int.ofNat_eq_natCast]; omega)
          rw [e, cond_false]
          by_cases h48 : 48 ≤ c.toNat
          · rw [decide_eq_true (show Int.ofNat c.toNat ≥ 48 by simp only [Int.ofNat_eq_natCast]; omega), cond_true]
            by_cases h57 : c.toNat ≤ 57
            · rw [decide_eq_true (show Int.ofNat c.toNat ≤ 57 by simp only [Int.ofNat_eq_natCast]; omega), cond_true, step, if_pos (by unfold numC isDig; rw [decide_eq_true h48, decide_eq_true h57]; simp)]
            · rw [decide_eq_false (show ¬ Int.ofNat c.toNat ≤ 57 by simp only [Int.ofNat_eq_natCast]; omega), cond_false, if_neg (by unfold numC isDig; rw [decide_eq_false h45, decide_eq_false h57]; simp)]
              rfl
          · rw [decide_eq_false (show ¬ Int.ofNat c.toNat ≥ 48 by simp only [Int.ofNat_eq_natCast]; omega), cond_false, if_neg (by unfold numC isDig; rw [decide_eq_false h45, decide_eq_false h48]; simp)]
            rfl
      · rw [decide_eq_false (show ¬ Int.ofNat i < 11 by simp only [Int.ofNat_eq_natCast]; omega), cond_false, show 11 - i = 0 by omega]
        rfl
    · rw [lt_no i _ (by omega), cond_false, List.drop_eq_nil_of_le (by omega)]
      have : spanN (11 - i) [] = [] := by cases 11 - i <;> rfl
      rw [this]
      rfl
def Res60 (x : Option (W × Bs)) (o : Option Out) : Prop := ∃ (v' : W) (r' : Bs), o = some (R (.tup [v'.v, sV (ba r'), bV x.isSome])) ∧ ∀ v r, x = some (v, r) → v' = v ∧ r' = r
theorem Res60.fail {v' : W} {r' : Bs} : Res60 none (some (R (.tup [v'.v, sV (ba r'), bV false]))) := ⟨v', r', rfl, fun v r h => by cases h⟩
theorem Res60.ok {v : W} {r : Bs} : Res60 (some (v, r)) (some (R (.tup [v.v, sV (ba r), bV true]))) := ⟨v, r, rfl, fun v' r' h => by cases h; exact ⟨rfl, rfl⟩⟩
theorem C60n (k : Nat) (s : Bs) (hs : s.length ≤ 1000000) : Res60 ((readI s).map fun x => (W.mk 2 x.1 [], x.2)) (q60_2 (Ak (k + 1)) (k + 1) (ba s) (Int.ofNat (spanN 11 s).length) 0 0 2 0) := by
  have hfr := span_front 11 s
  have hlen := congrArg List.length hfr
  rw [List.length_append] at hlen
  have hle : (spanN 11 s).length ≤ s.length := by omega
  have htake : (s.take (spanN 11 s).length).drop 0 = spanN 11 s := by
    rw [List.drop_zero]
    conv => lhs; rw [hfr]
    rw [List.take_left']
    rw [← hfr]
  have hdrop : (s.take s.length).drop (spanN 11 s).length = s.drop (spanN 11 s).length := by rw [List.take_length]
  have e1 : (decide ((0 : Int) ≤ Int.ofNat (spanN 11 s).length) && decide (Int.ofNat (spanN 11 s).length ≤ Int.ofNat s.length) && true && decide ((0 : Int) ≤ Int.ofNat (spanN 11 s).length)) = true := by simp; omega
  have e2 : (decide ((0 : Int) ≤ Int.ofNat s.length) && decide (Int.ofNat s.length ≤ Int.ofNat s.length) && decide ((0 : Int) ≤ Int.ofNat (spanN 11 s).length) && decide (Int.ofNat (spanN 11 s).length ≤ Int.ofNat s.length)) = true := by simp; omega
  rw [q60_2_eq, ba_size, e1, e2, tn, tn, ba_extract, ba_extract, htake, hdrop, show Ak (k + 1) 78 [V.one (X.d (D.str (ba (spanN 11 s))))] [] = _ from C78 k _ (by omega)]
  simp only [cond_true]
  unfold readI atoiO
  rw [ba_list]
  cases ha : Lib.atoiAll (spanN 11 s) with
  | ok v =>
    obtain ⟨h0, h1⟩ := atoi_range ha
    show Res60 _ (r_t2oIoD (some (Out.mk true (V.tup [V.one (X.d (D.int IntKind.i64 v)), V.one (X.d D.nilI)]) D.junk [] 0)) [] _)
    rw [g_t2oIoD, show D.isNilI D.nilI = true from rfl, cond_true, show Ak (k + 1) 63 [V.one (X.d (D.int IntKind.i64 v))] [] = _ from C63 k v h0 h1, Option.bind_some]
    show Res60 _ (some (Out.mk true (V.tup [V.agg [X.d (D.int IntKind.i64 2), X.d (D.int IntKind.i64 v), X.d (D.list 3 [])], V.one (X.d (D.str (ba (s.drop (spanN 11 s).length)))), V.one (X.d (D.bool (beqL (Lib.itoa v) (spanN 11 s))))]) D.junk [] 0))
    rw [beqL_eq]
    by_cases he : Lib.itoa v = spanN 11 s
    · simp only [he, if_true, decide_true]
      exact Res60.ok (v := .mk 2 v [])
    · simp only [he, if_false, decide_false]
      exact Res60.fail (v' := .mk 2 v [])
  | range => exact Res60.fail (v' := .mk 2 _ [])
  | _ => exact Res60.fail (v' := .mk 2 _ [])
/-! ### parts -/
theorem L60 (k n : Nat) (κ : Int) (l : List T) (fin : Bs) (n2 N : Nat) (hN : N ≤ 1000000) (rd : Nat → Bs → Option (W × Bs)) (hκ : κ = 3 ∨ κ = 4) (h0 : 0 < l.length)
    (hrd : ∀ i q, rd i q = if κ = 3 then (if i = l.length then none else readW n (l.getD i default) q) else readW n (l.getD 0 default) q)
    (hΓ : ∀ t ∈ l, ∀ q : Bs, q.length ≤ N → Res60 (readW n t q) (Ak (k + 3) 60 [t.v, sV (ba q)] [])) :
    ∀ (m f : Nat) (s : Bs) (acc : List W), s.length < m → s.length < f → s.length ≤ N → acc.length + s.length ≤ N → (κ = 3 → acc.length ≤ l.length) →
      Res60 ((loopW rd fin f s acc).map fun x => (W.mk κ 0 x.1, x.2)) (l60_1_v1 m (Ak (k + 3)) n2 (ba fin) (ba s) true (Int.ofNat acc.length) κ (T.rows l) 0 0 κ 0 (W.rows acc)) := by
  intro m
  induction m with
  | zero => intro f s acc h; omega
  | succ m ih =>
    intro f s acc hm hf hr hacc hi3
    obtain ⟨f, rfl⟩ : ∃ f', f = f' + 1 := ⟨f - 1, by omega⟩
    -- what stands behind the choice of the child
    have main : ∀ t ∈ l, rd acc.length s = readW n t s → (κ = 3 → acc.length < l.length) → Res60 ((loopW rd fin (f + 1) s acc).map fun x => (W.mk κ 0 x.1, x.2)) (q60_8_v1 (Ak (k + 3)) m n2 (ba fin) (ba s) (Int.ofNat acc.length) κ (T.rows l) 0 0 κ 0 (W.rows acc) (D.int IntKind.i64 t.k) (D.list 2 (T.rows t.l))) := by
      intro t ht hrt hlt
      obtain ⟨v', r', ho, he⟩ := hΓ t ht s hr
      unfold T.v at ho
      rw [q60_8_v1_eq, ho, W.v, g_t3a3IIL3oSoB]
      unfold loopW
      rw [hrt]
      cases hread : readW n t s with
      | none =>
        rw [Option.isSome_none, Bool.not_false, cond_true, q60_12_v1_eq]
        exact Res60.fail (v' := .mk κ 0 acc) (r' := [])
      | some p =>
        obtain ⟨v, r1⟩ := p
        obtain ⟨rfl, rfl⟩ := he v r1 hread
        have hinv := readW_inv _ _ _ _ _ hread
        obtain ⟨c, q, hq, _⟩ := textW_head v'
        have h3 := congrArg List.length hinv
        rw [hq, List.length_append, List.length_cons] at h3
        rw [Option.isSome_some, Bool.not_true, cond_false, q60_9_v1_eq, W.rows_len, ble_t (by simp only [List.length_cons, List.length_nil]; omega)]
        simp only [Bool.and_self, cond_true]
        rw [C65, cutV, g_t2oSoB, ← W.rows_one, ← W.rows_app]
        cases hc : cutP fin r' with
        | some r2 =>
          simp only [Option.isSome_some, cond_true, Option.getD_some]
          exact Res60.ok (v := .mk κ 0 (acc ++ [v']))
        | none =>
          simp only [Option.isSome_none, cond_false, Option.getD_none]
          rw [q60_10_eq]
          show Res60 _ (r_t2oSoB (Ak (k + 3) 65 [sV (ba r'), sV (ba sepB)] []) [] _)
          rw [C65, cutV, g_t2oSoB, q60_11_eq, wrap_up _ (by omega)]
          cases hs : cutP sepB r' with
          | none =>
            simp only [Option.isSome_none, Option.getD_none]
            obtain ⟨m, rfl⟩ : ∃ m', m = m' + 1 := ⟨m - 1, by omega⟩
            rw [l60_1_v1_eq, cond_false, q60_12_v1_eq]
            exact Res60.fail (v' := .mk κ 0 (acc ++ [v'])) (r' := [])
          | some r3 =>
            simp only [Option.isSome_some, Option.getD_some]
            have h5 := congrArg List.length (cutP_some hs)
            rw [List.length_append, show sepB.length = 2 from rfl] at h5
            have := ih f r3 (acc ++ [v']) (by omega) (by omega) (by omega) (by rw [List.length_append, List.length_cons, List.length_nil]; omega) (fun h => by rw [List.length_append, List.length_cons, List.length_nil]; have := hlt h; omega)
            rw [List.length_append, List.length_cons, List.length_nil] at this
            exact this
    rw [l60_1_v1_eq, cond_true, q60_6_v1_eq, T.rows_len, decide_eq_true (show (0 : Int) < Int.ofNat l.length by simp only [Int.ofNat_eq_natCast]; omega), Bool.true_and, cond_true, O8.int_eqb]
    rcases hκ with h3 | h4
    · rw [decide_eq_true h3, cond_true, O8.int_eqb]
      by_cases hie : acc.length = l.length
      · rw [decide_eq_true (show Int.ofNat acc.length = Int.ofNat l.length by rw [hie]), cond_true]
        unfold loopW
        rw [hrd, if_pos h3, if_pos hie]
        exact Res60.fail (v' := .mk κ 0 acc) (r' := [])
      · have hlt : acc.length < l.length := by have := hi3 h3; omega
        rw [decide_eq_false (show ¬ Int.ofNat acc.length = Int.ofNat l.length by simp only [Int.ofNat_eq_natCast]; omega), cond_false, q60_7_v1_eq, T.rows_len, in_range _ _ hlt, cond_true, tn, T.rows_at l _ hlt]
        exact main _ (getD_mem l _ hlt) (by rw [hrd, if_pos h3, if_neg hie]) (fun _ => hlt)
    · rw [decide_eq_false (show ¬ κ = 3 by omega), cond_false, T.rows_at l 0 h0]
      exact main _ (getD_mem l 0 h0) (by rw [hrd, if_neg (by omega)]) (fun h => by omega)
theorem L60s (k n : Nat) (κ : Int) (l : List T) (fin : Bs) (n2 N : Nat) (hN : N ≤ 1000000) (rd : Nat → Bs → Option (W × Bs)) (hκ : κ = 3 ∨ κ = 4) (h0 : 0 < l.length)
    (hrd : ∀ i q, rd i q = if κ = 3 then (if i = l.length then none else readW n (l.getD i default) q) else readW n (l.getD 0 default) q)
    (hΓ : ∀ t ∈ l, ∀ q : Bs, q.length ≤ N → Res60 (readW n t q) (Ak (k + 3) 60 [t.v, sV (ba q)] [])) (m : Nat) (s : Bs) (hm : s.length + 1 < m) (hr : s.length + 1 ≤ N) :
      Res60 ((loopW rd fin (s.length + 1) s []).map fun x => (W.mk κ 0 x.1, x.2)) (l60_1 m (Ak (k + 3)) n2 (ba fin) (ba s) true 0 κ (T.rows l) 0 0 κ 0) := by
  obtain ⟨m, rfl⟩ : ∃ m', m = m' + 1 := ⟨m - 1, by omega⟩
  have hl0 : l.getD 0 default ∈ l := getD_mem l 0 h0
  have hrt : rd 0 s = readW n (l.getD 0 default) s := by
    rw [hrd]
    by_cases h3 : κ = 3
    · rw [if_pos h3, if_neg (by omega)]
    · rw [if_neg h3]
  obtain ⟨v', r', ho, he⟩ := hΓ _ hl0 s (by omega)
  unfold T.v at ho
  have key : Res60 ((loopW rd fin (s.length + 1) s []).map fun x => (W.mk κ 0 x.1, x.2)) (q60_8 (Ak (k + 3)) m n2 (ba fin) (ba s) 0 κ (T.rows l) 0 0 κ 0 (D.int IntKind.i64 (l.getD 0 default).k) (D.list 2 (T.rows (l.getD 0 default).l))) := by
    rw [q60_8_eq, ho, W.v, g_t3a3IIL3oSoB]
    unfold loopW
    rw [show rd ([] : List W).length s = _ from hrt]
    cases hread : readW n (l.getD 0 default) s with
    | none =>
      rw [Option.isSome_none, Bool.not_false, cond_true, q60_12_eq]
      exact Res60.fail (v' := .mk κ 0 []) (r' := [])
    | some p =>
      obtain ⟨v, r1⟩ := p
      obtain ⟨rfl, rfl⟩ := he v r1 hread
      have hinv := readW_inv _ _ _ _ _ hread
      obtain ⟨c, q, hq, _⟩ := textW_head v'
      have h3 := congrArg List.length hinv
      rw [hq, List.length_append, List.length_cons] at h3
      rw [Option.isSome_some, Bool.not_true, cond_false, q60_9_eq, C65, cutV, g_t2oSoB, ← W.rows_one]
      cases hc : cutP fin r' with
      | some r2 =>
        simp only [hc, Option.isSome_some, cond_true, Option.getD_some]
        exact Res60.ok (v := .mk κ 0 [v'])
      | none =>
        simp only [hc, Option.isSome_none, cond_false, Option.getD_none]
        rw [q60_10_eq]
        show Res60 _ (r_t2oSoB (Ak (k + 3) 65 [sV (ba r'), sV (ba sepB)] []) [] _)
        rw [C65, cutV, g_t2oSoB, q60_11_eq, show IntKind.wrap .i64 (0 + 1) = Int.ofNat 1 from wrap_up 0 (by omega)]
        cases hs : cutP sepB r' with
        | none =>
          simp only [hs, Option.isSome_none, Option.getD_none]
          obtain ⟨m, rfl⟩ : ∃ m', m = m' + 1 := ⟨m - 1, by omega⟩
          rw [l60_1_v1_eq, cond_false, q60_12_v1_eq]
          exact Res60.fail (v' := .mk κ 0 [v']) (r' := [])
        | some r3 =>
          simp only [hs, Option.isSome_some, Option.getD_some]
          have h5 := congrArg List.length (cutP_some hs)
          rw [List.length_append, show sepB.length = 2 from rfl] at h5
          exact L60 k n κ l fin n2 N hN rd hκ h0 hrd hΓ m s.length r3 [v'] (by omega) (by omega) (by omega) (by simp; omega) (fun _ => by simp; omega)
  rw [l60_1_eq, cond_true, q60_6_eq, T.rows_len, decide_eq_true (show (0 : Int) < Int.ofNat l.length by simp only [Int.ofNat_eq_natCast]; omega), Bool.true_and, cond_true, O8.int_eqb, T.rows_at l 0 h0]
  rcases hκ with h3 | h4
  · rw [decide_eq_true h3, cond_true, O8.int_eqb, decide_eq_false (show ¬ (0 : Int) = Int.ofNat l.length by simp only [Int.ofNat_eq_natCast]; omega), cond_false, q60_7_eq, T.rows_len, show (decide ((0 : Int) ≤ 0) && decide ((0 : Int) < Int.ofNat l.length)) = true from in_range 0 _ h0, cond_true, show Int.toNat 0 = 0 from rfl, T.rows_at l 0 h0]
    exact key
  · rw [decide_eq_false (show ¬ κ = 3 by omega), cond_false]
    exact key
theorem L60f (m : Nat) (Γ : SemL) (n2 : Nat) (a b : ByteArray) (κ : Int) (l : List (List D)) : Res60 none (l60_1 (m + 1) Γ n2 a b false 0 κ l 0 0 κ 0) := by
  rw [l60_1_eq, cond_false, q60_12_eq]
  exact Res60.fail (v' := .mk κ 0 []) (r' := [])
theorem C60t (k n : Nat) (l : List T) (s : Bs) (N : Nat) (hN : N ≤ 1000000) (hs : s.length ≤ N) (hk : N + (n + 1) + 30 ≤ k + 3 + 1) (hΓ : ∀ t ∈ l, ∀ q : Bs, q.length ≤ N → Res60 (readW n t q) (Ak (k + 3) 60 [t.v, sV (ba q)] [])) (h0 : 0 < l.length) : Res60 (match cutP [40] s with | none => none | some r => (loopW (fun i q => if i = l.length then none else readW n (l.getD i default) q) [41] (r.length + 1) r []).map fun x => (W.mk 3 0 x.1, x.2)) (q60_4 (Ak (k + 3)) (k + 3) (ba s) (ba [40]) (ba [41]) 3 (T.rows l) 0 0 3 0) := by
  rw [q60_4_eq]
  show Res60 _ (r_t2oSoB (Ak (k + 3) 65 [sV (ba s), sV (ba [40])] []) [] _)
  rw [C65, cutV, g_t2oSoB]
  show Res60 _ (r_t2oSoB (Ak (k + 3) 65 [sV (ba ((cutP [40] s).getD s)), sV (ba [41])] []) [] _)
  rw [C65, cutV, g_t2oSoB, q60_5_eq]
  cases hc : cutP [40] s with
  | none =>
    simp only [Option.isSome_none, cond_false]
    exact L60f (k + 2) _ _ _ _ _ _
  | some r =>
    have h5 := congrArg List.length (cutP_some hc)
    rw [List.length_append, List.length_cons, List.length_nil] at h5
    have hh := L60s k n 3 l [41] (k + 3) N hN (fun i q => if i = l.length then none else readW n (l.getD i default) q) (.inl rfl) h0 (fun i q => by rw [if_pos rfl]) hΓ (k + 3) r (by omega) (by omega)
    rw [Option.isSome_some, cond_true, Option.getD_some, O8.int_eqb, decide_eq_false (show ¬ (3 : Int) = 4 by decide), cond_false]
    cases (cutP [41] r).isSome
    · rw [cond_false]; exact hh
    · rw [cond_true]; exact hh
theorem C60l (k n : Nat) (l : List T) (s : Bs) (N : Nat) (hN : N ≤ 1000000) (hs : s.length ≤ N) (hk : N + (n + 1) + 30 ≤ k + 3 + 1) (hΓ : ∀ t ∈ l, ∀ q : Bs, q.length ≤ N → Res60 (readW n t q) (Ak (k + 3) 60 [t.v, sV (ba q)] [])) (h0 : 0 < l.length) : Res60 (match cutP [91] s with | none => none | some r => match cutP [93] r with | some r2 => some (.mk 4 0 [], r2) | none => (loopW (fun _ q => readW n (l.getD 0 default) q) [93] (r.length + 1) r []).map fun x => (W.mk 4 0 x.1, x.2)) (q60_4 (Ak (k + 3)) (k + 3) (ba s) (ba [91]) (ba [93]) 4 (T.rows l) 0 0 4 0) := by
  rw [q60_4_eq]
  show Res60 _ (r_t2oSoB (Ak (k + 3) 65 [sV (ba s), sV (ba [91])] []) [] _)
  rw [C65, cutV, g_t2oSoB]
  show Res60 _ (r_t2oSoB (Ak (k + 3) 65 [sV (ba ((cutP [91] s).getD s)), sV (ba [93])] []) [] _)
  rw [C65, cutV, g_t2oSoB, q60_5_eq]
  cases hc : cutP [91] s with
  | none =>
    simp only [Option.isSome_none, cond_false]
    exact L60f (k + 2) _ _ _ _ _ _
  | some r =>
    have h5 := congrArg List.length (cutP_some hc)
    rw [List.length_append, List.length_cons, List.length_nil] at h5
    have hh := L60s k n 4 l [93] (k + 3) N hN (fun i q => readW n (l.getD 0 default) q) (.inr rfl) h0 (fun i q => by rw [if_neg (by decide)]) hΓ (k + 3) r (by omega) (by omega)
    rw [Option.isSome_some, cond_true, Option.getD_some, O8.int_eqb, decide_eq_true (show (4 : Int) = 4 from rfl), cond_true]
    show Res60 (match cutP [93] r with | some r2 => some (W.mk 4 0 [], r2) | none => (loopW (fun _ q => readW n (l.getD 0 default) q) [93] (r.length + 1) r []).map fun x => (W.mk 4 0 x.1, x.2)) _
    cases hb : cutP [93] r with
    | some r2 =>
      rw [Option.isSome_some, cond_true, Option.getD_some]
      exact Res60.ok (v := .mk 4 0 [])
    | none =>
      rw [Option.isSome_none, cond_false]
      exact hh
theorem C60 : ∀ (n k : Nat) (t : T) (s : Bs) (N : Nat), deepT n t = true → N ≤ 1000000 → s.length ≤ N → N + n + 30 ≤ k → Res60 (readW n t s) (Ak k 60 [t.v, sV (ba s)] []) := by
  intro n
  induction n with
  | zero => intro k t s N h; cases h
  | succ n ihn =>
    intro k t s N hd hN hs hk
    obtain ⟨κ, l⟩ := t
    obtain ⟨k, rfl⟩ : ∃ k', k = k' + 3 + 1 := ⟨k - 4, by omega⟩
    have hc := call60 (k + 3) κ (T.rows l) (ba s)
    rw [e60_eq] at hc
    rw [show Ak (k + 3 + 1) 60 [(T.mk κ l).v, sV (ba s)] [] = _ from hc, O8.int_eqb, O8.int_eqb]
    clear hc
    unfold readW
    unfold deepT at hd
    by_cases h1 : κ = 1
    · subst h1
      rw [decide_eq_true rfl, cond_true, if_pos rfl]
      show Res60 _ (r_t2oSoB (Ak (k + 3) 65 [sV (ba s), sV (ba trueB)] []) [] _)
      rw [C65, cutV, g_t2oSoB]
      unfold readB
      cases hc : cutP trueB s with
      | some r => exact Res60.ok (v := .mk 1 1 [])
      | none =>
        simp only [Option.isSome_none, cond_false]
        rw [q60_0_eq]
        show Res60 _ (r_t2oSoB (Ak (k + 3) 65 [sV (ba s), sV (ba falseB)] []) [] _)
        rw [C65, cutV, g_t2oSoB]
        cases hc2 : cutP falseB s with
        | some r => exact Res60.ok (v := .mk 1 0 [])
        | none => exact Res60.fail (v' := .mk 1 0 [])
    · rw [decide_eq_false h1, cond_false, if_neg h1]
      by_cases h2 : κ = 2
      · subst h2
        rw [decide_eq_true rfl, cond_true, if_pos rfl]
        have := L60n (Ak (k + 3)) s (by omega) (k + 3) 2 (k + 3) 0 (by omega) (by omega) (by omega)
        rw [show l60_0 (k + 3) (Ak (k + 3)) (k + 3) (ba s) 0 0 0 2 0 = _ from this]
        rw [List.drop_zero, Nat.zero_add]
        exact C60n (k + 2) s (by omega)
      · rw [decide_eq_false h2, cond_false, if_neg h2, q60_3_eq]
        rw [if_neg (fun q => q.elim h1 h2)] at hd
        have hΓ : ∀ t ∈ l, deepT n t = true → ∀ q : Bs, q.length ≤ N → Res60 (readW n t q) (Ak (k + 3) 60 [t.v, sV (ba q)] []) := fun t ht hdt q hq => ihn (k + 3) t q N hdt hN hq (by omega)
        by_cases h3 : κ = 3
        · rw [if_pos h3] at hd
          simp only [Bool.and_eq_true, decide_eq_true_eq, List.all_eq_true] at hd
          subst h3
          rw [if_pos rfl]
          exact C60t k n l s N hN hs hk (fun t ht => hΓ t ht (hd.2 t ht)) (by omega)
        · rw [if_neg h3] at hd
          by_cases h4 : κ = 4
          · rw [if_pos h4] at hd
            simp only [Bool.and_eq_true, decide_eq_true_eq, List.all_eq_true] at hd
            subst h4
            rw [if_neg h3]
            exact C60l k n l s N hN hs hk (fun t ht => hΓ t ht (hd.2 t ht)) (by omega)
          · rw [if_neg h4] at hd
            cases hd
/-! ### Parse -/
def parW (x : Option W) : V := match x with
  | some v => .tup [v.v, iV 0]
  | none => .tup [W.v (.mk 0 0 []), iV 33]
def parWo (t : T) (s : Bs) : V := if deepT 40 t then parW (parseV t s) else .tup [W.v (.mk 0 0 []), iV 1]
theorem sizes_text (l : List W) (h : ∀ v ∈ l, v.size ≤ (textW v).length) : W.sizes l ≤ (Lib.join (l.map textW) sepB).length := by
  induction l with
  | nil => rw [W.sizes]; omega
  | cons a l ih =>
    have h1 := h a (by simp)
    have h2 := ih (fun t ht => h t (by simp [ht]))
    cases l with
    | nil => rw [List.map_cons, List.map_nil, Lib.join_one, W.sizes, W.sizes]; omega
    | cons b l => rw [List.map_cons, List.map_cons, join_two, List.length_append, List.length_append, ← List.map_cons, W.sizes]; omega
theorem readB_size {s r : Bs} {v : W} (h : readB s = some (v, r)) : v.size ≤ (textW v).length := by
  unfold readB at h
  split at h
  · cases h; rw [textW, W.size, W.sizes]; decide
  · rw [Option.map_eq_some_iff] at h
    obtain ⟨q, _, h⟩ := h
    cases h; rw [textW, W.size, W.sizes]; decide
theorem itoa_pos_len (v : Int) : 1 ≤ (Lib.itoa v).length := by
  obtain ⟨c, r, e, _⟩ := textW_head (.mk 2 v [])
  rw [textW, if_neg (by decide), if_pos rfl] at e
  rw [e]; simp
theorem loopW_size {rd : Nat → Bs → Option (W × Bs)} {fin : Bs} (hr : ∀ i s x r, rd i s = some (x, r) → x.size ≤ (textW x).length) : ∀ (f : Nat) (s : Bs) (acc l : List W) (r : Bs), loopW rd fin f s acc = some (l, r) → (∀ v ∈ acc, v.size ≤ (textW v).length) → ∀ v ∈ l, v.size ≤ (textW v).length
  | 0, _, _, _, _, h, _ => by cases h
  | f + 1, s, acc, l, r, h, ha => by
    unfold loopW at h
    split at h
    · cases h
    · rename_i t r1 ht
      have ha2 : ∀ x ∈ acc ++ [t], x.size ≤ (textW x).length := fun x hx => by
        rcases List.mem_append.1 hx with hx | hx
        · exact ha x hx
        · rw [List.mem_singleton] at hx; subst hx; exact hr _ _ _ _ ht
      split at h
      · cases h; exact ha2
      · split at h
        · cases h
        · exact loopW_size hr _ _ _ _ _ h ha2
theorem readW_size : ∀ (n : Nat) (t : T) (s : Bs) (v : W) (r : Bs), readW n t s = some (v, r) → v.size ≤ (textW v).length
  | 0, _, _, _, _, h => by cases h
  | n + 1, .mk k l, s, v, r, h => by
    unfold readW at h
    split at h
    · exact readB_size h
    · split at h
      · rw [Option.map_eq_some_iff] at h
        obtain ⟨x, hx, h⟩ := h
        cases h
        rw [textW, W.size, W.sizes, if_neg (by decide), if_pos rfl]
        exact itoa_pos_len _
      · split at h
        · split at h
          · cases h
          · rw [Option.map_eq_some_iff] at h
            obtain ⟨⟨l', q⟩, hl, h⟩ := h
            cases h
            have := sizes_text l' (loopW_size (fun i s x r hx => by
              split at hx
              · cases hx
              · exact readW_size n _ s x r hx) _ _ _ _ _ hl (fun v hv => by cases hv))
            rw [textW, W.size, if_neg (by decide), if_neg (by decide), if_pos rfl, textWs_map]
            simp only [List.length_append, List.length_cons, List.length_nil]
            omega
        · split at h
          · cases h
          · split at h
            · cases h; rw [textW, W.size, W.sizes]; simp
            · rw [Option.map_eq_some_iff] at h
              obtain ⟨⟨l', q⟩, hl, h⟩ := h
              cases h
              have := sizes_text l' (loopW_size (fun i s x r hx => readW_size n _ s x r hx) _ _ _ _ _ hl (fun v hv => by cases hv))
              rw [textW, W.size, if_neg (by decide), if_neg (by decide), if_neg (by decide), if_pos rfl, textWs_map]
              simp only [List.length_append, List.length_cons, List.length_nil]
              omega
theorem has_size : ∀ (n : Nat) (t : T) (v : W), deepT n t = true → hasT n t v = true → v.size ≤ (textW v).length
  | 0, _, _, h, _ => by cases h
  | n + 1, .mk k l, .mk k' m vs, hd, hh => by
    unfold hasT at hh
    rw [Bool.and_eq_true, decide_eq_true_eq] at hh
    obtain ⟨rfl, hh⟩ := hh
    unfold deepT at hd
    rw [W.size, textW, textWs_map]
    by_cases h1 : k' = 1
    · rw [if_pos h1] at hh ⊢
      rw [Bool.and_eq_true] at hh
      obtain rfl : vs = [] := List.isEmpty_iff.1 hh.2
      rw [W.sizes]
      split
      · rw [show falseB.length = 5 from rfl]; omega
      · rw [show trueB.length = 4 from rfl]; omega
    · rw [if_neg h1] at hh ⊢
      by_cases h2 : k' = 2
      · rw [if_pos h2] at hh ⊢
        rw [Bool.and_eq_true] at hh
        obtain rfl : vs = [] := List.isEmpty_iff.1 hh.2
        have := itoa_pos_len m
        rw [W.sizes]; omega
      · rw [if_neg h2] at hh ⊢
        rw [if_neg (fun q => q.elim h1 h2)] at hd
        by_cases h3 : k' = 3
        · rw [if_pos h3] at hh hd ⊢
          simp only [Bool.and_eq_true, decide_eq_true_eq, List.all_eq_true] at hd hh
          have := sizes_text vs (fun v hv => by
            obtain ⟨i, hi, rfl⟩ := List.getElem_of_mem hv
            obtain ⟨z1, z2⟩ := all2_at _ _ _ hh.2 i hi
            exact has_size n _ _ (hd.2 _ (getD_mem l i z1)) z2)
          simp only [List.length_append, List.length_cons, List.length_nil]
          omega
        · rw [if_neg h3] at hh hd ⊢
          by_cases h4 : k' = 4
          · rw [if_pos h4] at hd ⊢
            simp only [Bool.and_eq_true, decide_eq_true_eq, List.all_eq_true] at hd hh
            obtain ⟨a, rfl⟩ : ∃ a, l = [a] := by
              match l, hd.1 with
              | [a], _ => exact ⟨a, rfl⟩
            have := sizes_text vs (fun v hv => has_size n a v (hd.2 a (by simp)) (hh.2 v hv))
            simp only [List.length_append, List.length_cons, List.length_nil]
            omega
          · rw [if_neg h4] at hd
            cases hd
theorem C34 (k : Nat) (t : T) (s : Bs) (hs : s.length ≤ 50000) (hk : 300000 ≤ k) : Ak k 34 [t.v, sV (ba s)] [] = some (R (parWo t s)) := by
  obtain ⟨k, rfl⟩ : ∃ k', k = k' + 1 := ⟨k - 1, by omega⟩
  refine (call34 k t.k (T.rows t.l) (ba s)).trans ?_
  have h16 := C16 k (by omega) t
  unfold T.v at h16
  rw [e34_eq, h16, g_oB]
  unfold parWo
  cases hd : deepT 40 t with
  | false => rfl
  | true =>
    rw [Bool.not_true, cond_false, if_pos rfl, q34_0_eq]
    obtain ⟨v', r', ho, he⟩ := C60 40 k t s 50000 hd (by omega) hs (by omega)
    unfold T.v at ho
    rw [ho, W.v, g_t3a3IIL3oSoB]
    unfold parseV
    cases hr : readW 40 t s with
    | none => rfl
    | some p =>
      obtain ⟨v, r⟩ := p
      obtain ⟨rfl, rfl⟩ := he v r hr
      rw [Option.isSome_some, Bool.not_true, cond_false, show ByteArray.mk #[] = ba [] from rfl, ba_list, ba_list, beqL_eq]
      cases r' with
      | cons c q => rfl
      | nil =>
        have hz := readW_size _ _ _ _ _ hr
        have hz2 := congrArg List.length (readW_inv _ _ _ _ _ hr)
        rw [List.length_append] at hz2
        have h24 := C24 k t v' (by omega) (by omega)
        unfold T.v W.v at h24
        rw [decide_eq_true rfl, Bool.not_true, cond_false, h24, g_oB, q34_1_eq]
        show _ = some (R (parW (if hasV t v' then some v' else none)))
        rw [show hasV t v' = hasP t v' from rfl]
        cases hasP t v' <;> rfl
end
section
set_option linter.unusedVariables false
set_option linter.unusedSimpArgs false
open Go Go.RowKit
/-! ### a number -/
theorem valD_lt : ∀ (ds : Bs) (a d : Nat), (∀ c ∈ ds, isDig c = true) → a < 10 ^ d → valD a ds < 10 ^ (d + ds.length)
  | [], a, d, _, h => h
  | c :: r, a, d, hd, h => by
    rw [valD_cons, List.length_cons, show d + (r.length + 1) = (d + 1) + r.length by omega]
    have hc := hd c (by simp)
    unfold isDig at hc
    simp only [Bool.and_eq_true, decide_eq_true_eq] at hc
    exact valD_lt r _ (d + 1) (fun z hz => hd z (by simp [hz])) (by rw [Nat.pow_succ]; omega)
theorem spanD_len : ∀ (n : Nat) (s : Bs), (spanD n s).length ≤ n
  | 0, s => Nat.le_refl _
  | n + 1, [] => by unfold spanD; simp
  | n + 1, c :: r => by
    unfold spanD
    split
    · have := spanD_len n r; rw [List.length_cons]; omega
    · simp
theorem p11 {d : Nat} (h : d ≤ 11) : 10 ^ d ≤ 100000000000 := Nat.le_trans (Nat.pow_le_pow_right (by omega) h) (by decide)
theorem L79 (Γ : SemL) (s : Bs) (hs : s.length ≤ 1000000) (n2 st : Nat) (b : Bool) : ∀ (m d a : Nat), d ≤ 11 → 11 - d < m → st + d ≤ s.length → a < 10 ^ d →
    l79_0 m Γ n2 (ba s) (Int.ofNat (st + d)) b (Int.ofNat st) (a : Int) = q79_2 Γ n2 (ba s) (Int.ofNat (st + d + (spanD (11 - d) (s.drop (st + d))).length)) b (Int.ofNat st) ((valD a (spanD (11 - d) (s.drop (st + d))) : Nat) : Int) := by
  intro m
  induction m with
  | zero => intro d a _ h; omega
  | succ m ih =>
    intro d a h11 hm hi ha
    have hp := p11 h11
    rw [l79_0_eq, ba_size]
    by_cases h1 : st + d < s.length
    · rw [lt_yes (st + d) _ h1, cond_true, show decide ((0 : Int) ≤ Int.ofNat (st + d)) = true from decide_eq_true (Int.natCast_nonneg _), tn, ba_get s _ h1]
      simp only [Bool.and_self, cond_true]
      rw [drop_get s _ h1]
      generalize hc : s.getD (st + d) 0 = c
      have stop : isDig c = false ∨ d = 11 → spanD (11 - d) (c :: s.drop (st + d + 1)) = [] := by
        intro h
        rcases h with h | h
        · cases hq : 11 - d with
          | zero => rfl
          | succ j => unfold spanD; rw [h]; rfl
        · rw [h]; rfl
      by_cases h48 : 48 ≤ c.toNat
      · rw [decide_eq_true (show Int.ofNat c.toNat ≥ 48 by simp only [Int.ofNat_eq_natCast]; omega), cond_true]
        by_cases h57 : c.toNat ≤ 57
        · rw [decide_eq_true (show Int.ofNat c.toNat ≤ 57 by simp only [Int.ofNat_eq_natCast]; omega), cond_true, wrap_in (Int.ofNat st + 11) (by simp only [Int.ofNat_eq_natCast]; omega) (by simp only [Int.ofNat_eq_natCast]; omega)]
          by_cases h2 : d < 11
          · have hdig : isDig c = true := by unfold isDig; rw [decide_eq_true h48, decide_eq_true h57]; rfl
            obtain ⟨j, hj⟩ : ∃ j, 11 - d = j + 1 := ⟨10 - d, by omega⟩
            have e8 : IntKind.wrap .i64 (IntKind.wrap .u8 (Int.ofNat c.toNat - 48)) = ((c.toNat - 48 : Nat) : Int) := by
              rw [wrap_u8 _ (by simp only [Int.ofNat_eq_natCast]; omega) (by simp only [Int.ofNat_eq_natCast]; omega), wrap_in _ (by simp only [Int.ofNat_eq_natCast]; omega) (by simp only [Int.ofNat_eq_natCast]; omega)]
              simp only [Int.ofNat_eq_natCast]; omega
            rw [decide_eq_true (show Int.ofNat (st + d) < Int.ofNat st + 11 by simp only [Int.ofNat_eq_natCast]; omega), cond_true, q79_1_eq, ba_size, in_range _ _ h1, cond_true, tn, ba_get s _ h1, hc, wrap_up _ (by omega), e8, wrap_in (10 * (a : Int)) (by omega) (by omega), wrap_in _ (by omega) (by omega),
              show 10 * (a : Int) + ((c.toNat - 48 : Nat) : Int) = ((a * 10 + (c.toNat - 48) : Nat) : Int) by omega, show st + d + 1 = st + (d + 1) by omega, ih (d + 1) _ (by omega) (by omega) (by omega) (by rw [Nat.pow_succ]; omega), hj, show 11 - (d + 1) = j by omega]
            have e9 : spanD (j + 1) (c :: s.drop (st + (d + 1))) = c :: spanD j (s.drop (st + (d + 1))) := by
              rw [spanD, if_pos hdig]
            rw [e9, valD_cons, List.length_cons, show st + (d + 1) + (spanD j (s.drop (st + (d + 1)))).length = st + d + ((spanD j (s.drop (st + (d + 1)))).length + 1) by omega]
          · rw [decide_eq_false (show ¬ Int.ofNat (st + d) < Int.ofNat st + 11 by simp only [Int.ofNat_eq_natCast]; omega), cond_false, stop (.inr (by omega))]
            rfl
        · rw [decide_eq_false (show ¬ Int.ofNat c.toNat ≤ 57 by simp only [Int.ofNat_eq_natCast]; omega), cond_false, stop (.inl (by unfold isDig; rw [decide_eq_false h57, Bool.and_false]))]
          rfl
      · rw [decide_eq_false (show ¬ Int.ofNat c.toNat ≥ 48 by simp only [Int.ofNat_eq_natCast]; omega), cond_false, stop (.inl (by unfold isDig; rw [decide_eq_false h48, Bool.false_and]))]
        rfl
    · rw [lt_no _ _ (by omega), cond_false, List.drop_eq_nil_of_le (by omega)]
      have : spanD (11 - d) [] = [] := by cases 11 - d <;> rfl
      rw [this]
      rfl
def Res79 (s : Bs) (x : Option (Int × Bs)) (o : Option Out) : Prop := ∃ n' e' : Int, o = some (R (.tup [iV n', iV e', bV x.isSome])) ∧ ∀ n r, x = some (n, r) → n' = n ∧ e' = Int.ofNat (s.length - r.length)
theorem Res79.fail {s : Bs} {n' e' : Int} : Res79 s none (some (R (.tup [iV n', iV e', bV false]))) := ⟨n', e', rfl, fun n r h => by cases h⟩
theorem Res79.ok {s r : Bs} {n e' : Int} (h : e' = Int.ofNat (s.length - r.length)) : Res79 s (some (n, r)) (some (R (.tup [iV n, iV e', bV true]))) := ⟨n, e', rfl, fun n' r' h' => by cases h'; exact ⟨rfl, h⟩⟩
/-- What stands behind the digits. -/
theorem L79f (k : Nat) (Γ : SemL) (s : Bs) (hs : s.length ≤ 1000000) (st : Nat) (hst : st ≤ s.length) (b : Bool) (ds : Bs) (hds : ds = spanD 11 (s.drop st)) (n : Int) :
    Res79 s (if ds ≠ [] ∧ (ds.head? ≠ some 48 ∨ ds.length = 1 ∧ b = false) ∧ -2147483648 ≤ n ∧ n ≤ 2147483647 then some (n, (s.drop st).drop ds.length) else none) (q79_3 Γ k (ba s) (Int.ofNat (st + ds.length)) b (Int.ofNat st) n) := by
  have hfr := spanD_front 11 (s.drop st)
  rw [← hds] at hfr
  have hlen := congrArg List.length hfr
  rw [List.length_append, List.length_drop, List.length_drop, List.length_drop] at hlen
  rw [q79_3_eq, ba_size]
  cases hq : ds with
  | nil =>
    rw [decide_eq_false (show ¬ Int.ofNat (st + ([] : Bs).length) > Int.ofNat st by simp), cond_false, if_neg (fun q => q.1 rfl)]
    exact Res79.fail
  | cons c r =>
    rw [hq] at hfr hlen
    have hlt : st < s.length := by rw [List.length_cons] at hlen; omega
    have hc : s.getD st 0 = c := by
      rw [drop_get s st hlt, List.cons_append] at hfr
      injection hfr
    have fin : Res79 s (if -2147483648 ≤ n ∧ n ≤ 2147483647 then some (n, (s.drop st).drop (c :: r).length) else none) (bif decide (n ≥ -2147483648) then some (Out.mk true (V.tup [V.one (X.d (D.int IntKind.i64 n)), V.one (X.d (D.int IntKind.i64 (Int.ofNat (st + (c :: r).length)))), V.one (X.d (D.bool (decide (n ≤ 2147483647))))]) D.junk [] 0)
        else some (Out.mk true (V.tup [V.one (X.d (D.int IntKind.i64 n)), V.one (X.d (D.int IntKind.i64 (Int.ofNat (st + (c :: r).length)))), V.one (X.d (D.bool false))]) D.junk [] 0)) := by
      by_cases h1 : n ≥ -2147483648
      · rw [decide_eq_true h1, cond_true]
        by_cases h2 : n ≤ 2147483647
        · rw [decide_eq_true h2, if_pos ⟨h1, h2⟩]
          exact Res79.ok (by rw [List.length_drop, List.length_drop]; congr 1; omega)
        · rw [decide_eq_false h2, if_neg (fun q => h2 q.2)]
          exact Res79.fail
      · rw [decide_eq_false h1, cond_false, if_neg (fun q => h1 q.1)]
        exact Res79.fail
    rw [decide_eq_true (show Int.ofNat (st + (c :: r).length) > Int.ofNat st by simp only [List.length_cons, Int.ofNat_eq_natCast]; omega), cond_true, in_range _ _ hlt, cond_true, tn, ba_get s _ hlt, hc, O8.int_neb]
    by_cases h48 : c.toNat = 48
    · have hc48 : c = 48 := UInt8.toNat_inj.1 h48
      rw [decide_eq_true (show Int.ofNat c.toNat = 48 by rw [h48]; rfl), Bool.not_true, cond_false, wrap_up _ (by omega), O8.int_eqb]
      by_cases hl : r = []
      · subst hl
        rw [decide_eq_true (show Int.ofNat (st + [c].length) = Int.ofNat (st + 1) from rfl), cond_true]
        cases b with
        | true =>
          rw [Bool.not_true, cond_false, if_neg (fun q => by
            rcases q.2.1 with q | q
            · exact q (by rw [hc48]; rfl)
            · cases q.2)]
          exact Res79.fail
        | false =>
          rw [Bool.not_false, cond_true]
          by_cases hr : -2147483648 ≤ n ∧ n ≤ 2147483647
          · rw [if_pos ⟨by simp, .inr ⟨rfl, rfl⟩, hr⟩]
            rw [if_pos hr] at fin
            exact fin
          · rw [if_neg (fun q => hr q.2.2)]
            rw [if_neg hr] at fin
            exact fin
      · have hl1 : (c :: r).length ≠ 1 := fun q => hl (List.eq_nil_of_length_eq_zero (by rw [List.length_cons] at q; omega))
        rw [decide_eq_false (show ¬ Int.ofNat (st + (c :: r).length) = Int.ofNat (st + 1) by simp only [Int.ofNat_eq_natCast]; omega), cond_false, if_neg (fun q => by
          rcases q.2.1 with q | q
          · exact q (by rw [hc48]; rfl)
          · exact hl1 q.1)]
        exact Res79.fail
    · rw [decide_eq_false (show ¬ Int.ofNat c.toNat = 48 by simp only [Int.ofNat_eq_natCast]; omega), Bool.not_false, cond_true]
      have hne : (c :: r).head? ≠ some 48 := fun q => h48 (by
        have : c = 48 := Option.some.inj q
        rw [this]; rfl)
      by_cases hr : -2147483648 ≤ n ∧ n ≤ 2147483647
      · rw [if_pos ⟨by simp, .inl hne, hr⟩]
        rw [if_pos hr] at fin
        exact fin
      · rw [if_neg (fun q => hr q.2.2)]
        rw [if_neg hr] at fin
        exact fin
theorem C79 (k i : Nat) (s : Bs) (hs : s.length ≤ 1000000) (hi : i ≤ s.length) (hk : 20 ≤ k) : Res79 s (readNum (s.drop i)) (Ak k 79 [sV (ba s), iV (Int.ofNat i)] []) := by
  obtain ⟨k, rfl⟩ : ∃ k', k = k' + 1 + 1 := ⟨k - 2, by omega⟩
  have hc := call79 (k + 1) (ba s) (Int.ofNat i)
  have h66 := C66 k s [45] i hi (by omega) (by decide)
  rw [e79_eq, show Ak (k + 1) 66 [V.one (X.d (D.str (ba s))), V.one (X.d (D.int IntKind.i64 (Int.ofNat i))), V.one (X.d (D.str (ByteArray.mk #[45])))] [] = _ from h66, g_oB, q79_0_eq, q79_0_eq] at hc
  rw [show Ak (k + 1 + 1) 79 [sV (ba s), iV (Int.ofNat i)] [] = _ from hc]
  clear hc h66
  unfold readNum
  cases hq : cutP [45] (s.drop i) with
  | some r =>
    have e := cutP_some hq
    have hlen := congrArg List.length e
    rw [List.length_append, List.length_drop, List.length_cons, List.length_nil] at hlen
    have hd1 : s.drop (i + 1) = r := by rw [← List.drop_drop, e]; rfl
    have hcut : cutM (s.drop i) = (true, r) := by rw [e]; rfl
    have h79 := L79 (Ak (k + 1)) s hs (k + 1) (i + 1) true (k + 1) 0 0 (by omega) (by omega) (by omega) (by decide)
    rw [Nat.add_zero, hd1, Nat.sub_zero] at h79
    rw [Option.isSome_some, cond_true, wrap_up _ (by omega), show l79_0 (k + 1) (Ak (k + 1)) (k + 1) (ba s) (Int.ofNat (i + 1)) true (Int.ofNat (i + 1)) 0 = _ from h79, q79_2_eq, cond_true]
    simp only [hcut, if_true]
    have hv := valD_lt (spanD 11 r) 0 0 (spanD_dig 11 r) (by decide)
    have hp := p11 (show 0 + (spanD 11 r).length ≤ 11 by have := spanD_len 11 r; omega)
    rw [wrap_in _ (by omega) (by omega), show (0 : Int) - ((valD 0 (spanD 11 r) : Nat) : Int) = -((valD 0 (spanD 11 r) : Nat) : Int) by omega]
    have := L79f (k + 1) (Ak (k + 1)) s hs (i + 1) (by omega) true (spanD 11 r) (by rw [hd1]) (-((valD 0 (spanD 11 r) : Nat) : Int))
    rw [hd1] at this
    exact this
  | none =>
    have hcut : cutM (s.drop i) = (false, s.drop i) := by
      cases hx : s.drop i with
      | nil => rfl
      | cons c r =>
        unfold cutM
        simp only
        rw [if_neg]
        intro h45
        rw [hx, h45, show (45 : UInt8) :: r = [45] ++ r from rfl, cutP_app] at hq
        cases hq
    have h79 := L79 (Ak (k + 1)) s hs (k + 1) i false (k + 1) 0 0 (by omega) (by omega) (by omega) (by decide)
    rw [Nat.add_zero, Nat.sub_zero] at h79
    rw [Option.isSome_none, cond_false, show l79_0 (k + 1) (Ak (k + 1)) (k + 1) (ba s) (Int.ofNat i) false (Int.ofNat i) 0 = _ from h79, q79_2_eq, cond_false]
    simp only [hcut, Bool.false_eq_true, if_false]
    have := L79f (k + 1) (Ak (k + 1)) s hs i hi false (spanD 11 (s.drop i)) rfl ((valD 0 (spanD 11 (s.drop i)) : Nat) : Int)
    simp only [eq_self] at this
    exact this
/-! ### a value -/
def Res61 (s : Bs) (x : Option (W × Bs)) (o : Option Out) : Prop := ∃ (v' : W) (e' : Int), o = some (R (.tup [v'.v, iV e', bV x.isSome])) ∧ ∀ v r, x = some (v, r) → v' = v ∧ e' = Int.ofNat (s.length - r.length)
theorem Res61.fail {s : Bs} {v' : W} {e' : Int} : Res61 s none (some (R (.tup [v'.v, iV e', bV false]))) := ⟨v', e', rfl, fun v r h => by cases h⟩
theorem Res61.ok {s r : Bs} {v : W} {e' : Int} (h : e' = Int.ofNat (s.length - r.length)) : Res61 s (some (v, r)) (some (R (.tup [v.v, iV e', bV true]))) := ⟨v, e', rfl, fun v' r' h' => by cases h'; exact ⟨rfl, h⟩⟩
/-- What stands behind the choice of the child. -/
theorem L61m (k n : Nat) (κ : Int) (l : List T) (fin : Bs) (s : Bs) (hs : s.length ≤ 50000) (n2 : Nat) (rd : Nat → Bs → Option (W × Bs)) (fit : Nat → Bool) (hf1 : fin.length = 1) (hfit : ∀ a : List (List D), (bif κ == 4 then true else Int.ofNat a.length == Int.ofNat (T.rows l).length) = fit a.length)
    (t : T) (hdt : deepT n t = true) (hΓ : ∀ i : Nat, i ≤ s.length → Res61 s (readU n t (s.drop i)) (Ak (k + 1) 61 [t.v, sV (ba s), iV (Int.ofNat i)] []))
    (m f i : Nat) (acc : List W) (hi : i ≤ s.length) (hacc : acc.length ≤ i) (h32 : acc.length < 32) (hrt : rd acc.length (s.drop i) = readU n t (s.drop i))
    (next : ∀ (i' : Nat) (v : W), i + 2 < i' → i' ≤ s.length → Res61 s ((loopU rd fin fit f (s.drop i') (acc ++ [v])).map fun x => (W.mk κ 0 x.1, x.2)) (l61_0_v1 m (Ak (k + 1)) n2 (ba s) (Int.ofNat i') (ba fin) κ (T.rows l) 0 0 0 0 κ 0 (W.rows (acc ++ [v])))) :
    Res61 s ((loopU rd fin fit (f + 1) (s.drop i) acc).map fun x => (W.mk κ 0 x.1, x.2)) (q61_7_v1 (Ak (k + 1)) m n2 (ba s) (Int.ofNat i) (ba fin) κ (T.rows l) 0 0 0 0 κ 0 (W.rows acc) (D.int IntKind.i64 t.k) (D.list 2 (T.rows t.l))) := by
  obtain ⟨v', e', ho, he⟩ := hΓ i hi
  unfold T.v at ho
  rw [q61_7_v1_eq, ho, W.v, g_t3a3IIL3oIoB]
  unfold loopU
  rw [if_pos h32, hrt]
  cases hr : readU n t (s.drop i) with
  | none =>
    rw [Option.isSome_none, Bool.not_false, cond_true]
    exact Res61.fail (v' := .mk 0 0 [])
  | some p =>
    obtain ⟨v, r1⟩ := p
    obtain ⟨rfl, rfl⟩ := he v r1 hr
    obtain ⟨hinv, _⟩ := readU_inv _ _ _ _ _ hdt hr
    obtain ⟨h1, h2, h3⟩ := drop_of hinv hi
    obtain ⟨c, q, hq, _⟩ := textW_head v'
    have hpos : 1 ≤ (textW v').length := by rw [hq]; simp
    rw [Option.isSome_some, Bool.not_true, cond_false, q61_8_v1_eq, W.rows_len, ble_t (by simp only [List.length_cons, List.length_nil]; omega)]
    simp only [Bool.and_self, cond_true]
    have hb := C66 k s sepB (s.length - r1.length) (by omega) (by omega) (by decide)
    rw [h1] at hb
    show Res61 s _ (r_oB (Ak (k + 1) 66 [sV (ba s), iV (Int.ofNat (s.length - r1.length)), sV (ba sepB)] []) [] _)
    rw [hb, g_oB, ← W.rows_one, ← W.rows_app]
    cases hc : cutP sepB r1 with
    | some r3 =>
      rw [Option.isSome_some, Bool.not_true, cond_false, q61_9_eq]
      have h5 := congrArg List.length (cutP_some hc)
      rw [List.length_append, show sepB.length = 2 from rfl] at h5
      have e6 : Int.ofNat (s.length - r1.length) + 2 = Int.ofNat (s.length - r3.length) := by simp only [Int.ofNat_eq_natCast]; omega
      have e7 : s.drop (s.length - r3.length) = r3 := by
        have := cutP_some hc
        exact (drop_of (s := s) (a := sepB) (b := r3) (i := s.length - r1.length) (by rw [h1, this]) (by omega)).1
      rw [wrap_in _ (by simp only [Int.ofNat_eq_natCast]; omega) (by simp only [Int.ofNat_eq_natCast]; omega), e6]
      have := next (s.length - r3.length) v' (by omega) (by omega)
      rw [e7] at this
      exact this
    | none =>
      rw [Option.isSome_none, Bool.not_false, cond_true]
      have hb2 := C66 k s fin (s.length - r1.length) (by omega) (by omega) (by omega)
      rw [h1] at hb2
      show Res61 s _ (r_oB (Ak (k + 1) 66 [sV (ba s), iV (Int.ofNat (s.length - r1.length)), sV (ba fin)] []) [] _)
      rw [hb2, g_oB]
      cases hd : cutP fin r1 with
      | none => exact Res61.fail (v' := .mk κ 0 _)
      | some r2 =>
        have h5 := congrArg List.length (cutP_some hd)
        rw [List.length_append, hf1] at h5
        have e6 : IntKind.wrap .i64 (Int.ofNat (s.length - r1.length) + 1) = Int.ofNat (s.length - r2.length) := by
          rw [wrap_up _ (by omega)]; congr 1; omega
        have hft := hfit (W.rows (acc ++ [v']))
        have hll : (W.rows (acc ++ [v'])).length = acc.length + 1 := by rw [W.rows_len, List.length_append, List.length_cons, List.length_nil]
        rw [Option.isSome_some, cond_true, e6]
        rw [hll] at hft
        rw [hll]
        cases h4 : (κ == 4) with
        | true =>
          rw [h4, cond_true] at hft
          rw [cond_true, ← hft]
          exact Res61.ok (v := .mk κ 0 (acc ++ [v'])) rfl
        | false =>
          rw [h4, cond_false] at hft
          rw [cond_false, hft]
          cases fit (acc.length + 1) with
          | true => exact Res61.ok (v := .mk κ 0 (acc ++ [v'])) rfl
          | false => exact Res61.fail (v' := .mk κ 0 (acc ++ [v']))
end
section
set_option linter.unusedVariables false
set_option linter.unusedSimpArgs false
open Go Go.RowKit
/-- .. and at the first. -/
theorem L61n (k n : Nat) (κ : Int) (l : List T) (fin : Bs) (s : Bs) (hs : s.length ≤ 50000) (n2 : Nat) (rd : Nat → Bs → Option (W × Bs)) (fit : Nat → Bool) (hf1 : fin.length = 1) (hfit : ∀ a : List (List D), (bif κ == 4 then true else Int.ofNat a.length == Int.ofNat (T.rows l).length) = fit a.length)
    (t : T) (hdt : deepT n t = true) (hΓ : ∀ i : Nat, i ≤ s.length → Res61 s (readU n t (s.drop i)) (Ak (k + 1) 61 [t.v, sV (ba s), iV (Int.ofNat i)] []))
    (m f i : Nat) (hi : i ≤ s.length) (hrt : rd 0 (s.drop i) = readU n t (s.drop i))
    (next : ∀ (i' : Nat) (v : W), i + 2 < i' → i' ≤ s.length → Res61 s ((loopU rd fin fit f (s.drop i') [v]).map fun x => (W.mk κ 0 x.1, x.2)) (l61_0_v1 m (Ak (k + 1)) n2 (ba s) (Int.ofNat i') (ba fin) κ (T.rows l) 0 0 0 0 κ 0 (W.rows [v]))) :
    Res61 s ((loopU rd fin fit (f + 1) (s.drop i) []).map fun x => (W.mk κ 0 x.1, x.2)) (q61_7 (Ak (k + 1)) m n2 (ba s) (Int.ofNat i) (ba fin) κ (T.rows l) 0 0 0 0 κ 0 (D.int IntKind.i64 t.k) (D.list 2 (T.rows t.l))) := by
  obtain ⟨v', e', ho, he⟩ := hΓ i hi
  unfold T.v at ho
  rw [q61_7_eq, ho, W.v, g_t3a3IIL3oIoB]
  unfold loopU
  rw [if_pos (show ([] : List W).length < 32 by simp), show rd ([] : List W).length (s.drop i) = _ from hrt]
  cases hr : readU n t (s.drop i) with
  | none =>
    rw [Option.isSome_none, Bool.not_false, cond_true]
    exact Res61.fail (v' := .mk 0 0 [])
  | some p =>
    obtain ⟨v, r1⟩ := p
    obtain ⟨rfl, rfl⟩ := he v r1 hr
    obtain ⟨hinv, _⟩ := readU_inv _ _ _ _ _ hdt hr
    obtain ⟨h1, h2, h3⟩ := drop_of hinv hi
    obtain ⟨c, q, hq, _⟩ := textW_head v'
    have hpos : 1 ≤ (textW v').length := by rw [hq]; simp
    rw [Option.isSome_some, Bool.not_true, cond_false, q61_8_eq]
    simp only [List.nil_append, List.length_nil, Nat.zero_add]
    have hb := C66 k s sepB (s.length - r1.length) (by omega) (by omega) (by decide)
    rw [h1] at hb
    show Res61 s _ (r_oB (Ak (k + 1) 66 [sV (ba s), iV (Int.ofNat (s.length - r1.length)), sV (ba sepB)] []) [] _)
    rw [hb, g_oB, ← W.rows_one]
    cases hc : cutP sepB r1 with
    | some r3 =>
      rw [Option.isSome_some, Bool.not_true, cond_false, q61_9_eq]
      have h5 := congrArg List.length (cutP_some hc)
      rw [List.length_append, show sepB.length = 2 from rfl] at h5
      have e6 : Int.ofNat (s.length - r1.length) + 2 = Int.ofNat (s.length - r3.length) := by simp only [Int.ofNat_eq_natCast]; omega
      have e7 : s.drop (s.length - r3.length) = r3 := by
        have := cutP_some hc
        exact (drop_of (s := s) (a := sepB) (b := r3) (i := s.length - r1.length) (by rw [h1, this]) (by omega)).1
      rw [wrap_in _ (by simp only [Int.ofNat_eq_natCast]; omega) (by simp only [Int.ofNat_eq_natCast]; omega), e6]
      have := next (s.length - r3.length) v' (by omega) (by omega)
      rw [e7] at this
      exact this
    | none =>
      rw [Option.isSome_none, Bool.not_false, cond_true]
      have hb2 := C66 k s fin (s.length - r1.length) (by omega) (by omega) (by omega)
      rw [h1] at hb2
      show Res61 s _ (r_oB (Ak (k + 1) 66 [sV (ba s), iV (Int.ofNat (s.length - r1.length)), sV (ba fin)] []) [] _)
      rw [hb2, g_oB]
      cases hd : cutP fin r1 with
      | none => exact Res61.fail (v' := .mk κ 0 _)
      | some r2 =>
        have h5 := congrArg List.length (cutP_some hd)
        rw [List.length_append, hf1] at h5
        have e6 : IntKind.wrap .i64 (Int.ofNat (s.length - r1.length) + 1) = Int.ofNat (s.length - r2.length) := by
          rw [wrap_up _ (by omega)]; congr 1; omega
        have hft := hfit (W.rows [v'])
        have hll : (W.rows [v']).length = 1 := by rw [W.rows_len, List.length_cons, List.length_nil]
        rw [Option.isSome_some, cond_true, e6]
        rw [hll] at hft
        rw [hll]
        cases h4 : (κ == 4) with
        | true =>
          rw [h4, cond_true] at hft
          rw [cond_true, ← hft]
          exact Res61.ok (v := .mk κ 0 [v']) rfl
        | false =>
          rw [h4, cond_false] at hft
          rw [cond_false, hft]
          cases fit 1 with
          | true => exact Res61.ok (v := .mk κ 0 [v']) rfl
          | false => exact Res61.fail (v' := .mk κ 0 [v'])
theorem L61 (k n : Nat) (κ : Int) (l : List T) (fin : Bs) (s : Bs) (hs : s.length ≤ 50000) (n2 : Nat) (rd : Nat → Bs → Option (W × Bs)) (fit : Nat → Bool) (hf1 : fin.length = 1) (hfit : ∀ a : List (List D), (bif κ == 4 then true else Int.ofNat a.length == Int.ofNat (T.rows l).length) = fit a.length)
    (hκ : κ = 3 ∨ κ = 4) (h0 : 0 < l.length) (hall : ∀ t ∈ l, deepT n t = true) (hrd : ∀ i q, rd i q = if κ = 3 then (if l.length ≤ i then none else readU n (l.getD i default) q) else readU n (l.getD 0 default) q)
    (hΓ : ∀ t ∈ l, ∀ i : Nat, i ≤ s.length → Res61 s (readU n t (s.drop i)) (Ak (k + 1) 61 [t.v, sV (ba s), iV (Int.ofNat i)] [])) :
    ∀ (m f i : Nat) (acc : List W), i ≤ s.length → s.length - i < m → s.length - i < f → acc.length ≤ i →
      Res61 s ((loopU rd fin fit f (s.drop i) acc).map fun x => (W.mk κ 0 x.1, x.2)) (l61_0_v1 m (Ak (k + 1)) n2 (ba s) (Int.ofNat i) (ba fin) κ (T.rows l) 0 0 0 0 κ 0 (W.rows acc)) := by
  intro m
  induction m with
  | zero => intro f i acc _ h; omega
  | succ m ih =>
    intro f i acc hi hm hf hacc
    obtain ⟨f, rfl⟩ : ∃ f', f = f' + 1 := ⟨f - 1, by omega⟩
    rw [l61_0_v1_eq, W.rows_len]
    by_cases h32 : acc.length < 32
    · have next : ∀ (i' : Nat) (v : W), i + 2 < i' → i' ≤ s.length → Res61 s ((loopU rd fin fit f (s.drop i') (acc ++ [v])).map fun x => (W.mk κ 0 x.1, x.2)) (l61_0_v1 m (Ak (k + 1)) n2 (ba s) (Int.ofNat i') (ba fin) κ (T.rows l) 0 0 0 0 κ 0 (W.rows (acc ++ [v]))) :=
        fun i' v h1 h2 => ih f i' (acc ++ [v]) h2 (by omega) (by omega) (by rw [List.length_append, List.length_cons, List.length_nil]; omega)
      rw [decide_eq_true (show Int.ofNat acc.length < 32 by simp only [Int.ofNat_eq_natCast]; omega), cond_true, q61_5_v1_eq, T.rows_len, decide_eq_true (show (0 : Int) < Int.ofNat l.length by simp only [Int.ofNat_eq_natCast]; omega), Bool.true_and, cond_true, O8.int_eqb, W.rows_len, T.rows_at l 0 h0]
      rcases hκ with h3 | h4
      · rw [decide_eq_true h3, cond_true]
        by_cases hge : l.length ≤ acc.length
        · rw [decide_eq_true (show Int.ofNat acc.length ≥ Int.ofNat l.length by simp only [Int.ofNat_eq_natCast]; omega), cond_true]
          unfold loopU
          rw [if_pos h32, hrd, if_pos h3, if_pos hge]
          exact Res61.fail (v' := .mk 0 0 [])
        · have hlt : acc.length < l.length := by omega
          rw [decide_eq_false (show ¬ Int.ofNat acc.length ≥ Int.ofNat l.length by simp only [Int.ofNat_eq_natCast]; omega), cond_false, q61_6_v1_eq, W.rows_len, T.rows_len, in_range _ _ hlt, cond_true, tn, T.rows_at l _ hlt]
          exact L61m k n κ l fin s hs n2 rd fit hf1 hfit _ (hall _ (getD_mem l _ hlt)) (hΓ _ (getD_mem l _ hlt)) m f i acc hi hacc h32 (by rw [hrd, if_pos h3, if_neg hge]) next
      · rw [decide_eq_false (show ¬ κ = 3 by omega), cond_false]
        exact L61m k n κ l fin s hs n2 rd fit hf1 hfit _ (hall _ (getD_mem l 0 h0)) (hΓ _ (getD_mem l 0 h0)) m f i acc hi hacc h32 (by rw [hrd, if_neg (by omega)]) next
    · rw [decide_eq_false (show ¬ Int.ofNat acc.length < 32 by simp only [Int.ofNat_eq_natCast]; omega), cond_false, q61_10_eq]
      unfold loopU
      rw [if_neg h32]
      exact Res61.fail (v' := .mk 0 0 [])
theorem L61s (k n : Nat) (κ : Int) (l : List T) (fin : Bs) (s : Bs) (hs : s.length ≤ 50000) (n2 : Nat) (rd : Nat → Bs → Option (W × Bs)) (fit : Nat → Bool) (hf1 : fin.length = 1) (hfit : ∀ a : List (List D), (bif κ == 4 then true else Int.ofNat a.length == Int.ofNat (T.rows l).length) = fit a.length)
    (hκ : κ = 3 ∨ κ = 4) (h0 : 0 < l.length) (hall : ∀ t ∈ l, deepT n t = true) (hrd : ∀ i q, rd i q = if κ = 3 then (if l.length ≤ i then none else readU n (l.getD i default) q) else readU n (l.getD 0 default) q)
    (hΓ : ∀ t ∈ l, ∀ i : Nat, i ≤ s.length → Res61 s (readU n t (s.drop i)) (Ak (k + 1) 61 [t.v, sV (ba s), iV (Int.ofNat i)] [])) (m i : Nat) (r : Bs) (hr : s.drop i = r) (hi : i ≤ s.length) (hm : s.length < m) (h1 : 1 ≤ i) :
      Res61 s ((loopU rd fin fit (r.length + 1) r []).map fun x => (W.mk κ 0 x.1, x.2)) (l61_0 m (Ak (k + 1)) n2 (ba s) (Int.ofNat i) (ba fin) κ (T.rows l) 0 0 0 0 κ 0) := by
  subst hr
  obtain ⟨m, rfl⟩ : ∃ m', m = m' + 1 := ⟨m - 1, by omega⟩
  have hl0 : l.getD 0 default ∈ l := getD_mem l 0 h0
  have hdl : (s.drop i).length = s.length - i := List.length_drop
  have hrt : rd 0 (s.drop i) = readU n (l.getD 0 default) (s.drop i) := by
    rw [hrd]
    by_cases h3 : κ = 3
    · rw [if_pos h3, if_neg (by omega)]
    · rw [if_neg h3]
  have key := L61n k n κ l fin s hs n2 rd fit hf1 hfit _ (hall _ hl0) (hΓ _ hl0) m (s.drop i).length i hi hrt (fun i' v h1 h2 =>
    L61 k n κ l fin s hs n2 rd fit hf1 hfit hκ h0 hall hrd hΓ m (s.drop i).length i' [v] h2 (by omega) (by omega) (by simp; omega))
  rw [l61_0_eq, q61_5_eq, T.rows_len, decide_eq_true (show (0 : Int) < Int.ofNat l.length by simp only [Int.ofNat_eq_natCast]; omega), Bool.true_and, cond_true, O8.int_eqb, T.rows_at l 0 h0]
  rcases hκ with h3 | h4
  · rw [decide_eq_true h3, cond_true, decide_eq_false (show ¬ Int.ofNat 0 ≥ Int.ofNat l.length by simp only [Int.ofNat_eq_natCast]; omega), cond_false, q61_6_eq, T.rows_len, lt_yes 0 _ h0, Bool.true_and, cond_true, T.rows_at l 0 h0]
    exact key
  · rw [decide_eq_false (show ¬ κ = 3 by omega), cond_false]
    exact key
theorem C61t (k n : Nat) (l : List T) (s : Bs) (i : Nat) (hs : s.length ≤ 50000) (hi : i ≤ s.length) (hk : s.length + 5 ≤ k) (h0 : 0 < l.length) (hall : ∀ t ∈ l, deepT n t = true)
    (hΓ : ∀ t ∈ l, ∀ i : Nat, i ≤ s.length → Res61 s (readU n t (s.drop i)) (Ak (k + 1) 61 [t.v, sV (ba s), iV (Int.ofNat i)] [])) :
    Res61 s (match cutP [40] (s.drop i) with | none => none | some r => (loopU (fun i q => if l.length ≤ i then none else readU n (l.getD i default) q) [41] (fun m => decide (m = l.length)) (r.length + 1) r []).map fun x => (.mk 3 0 x.1, x.2)) (q61_2 (Ak (k + 1)) (k + 1) (ba s) (Int.ofNat i) (ba [40]) (ba [41]) 3 (T.rows l) 0 0 0 0) := by
  have h66 := C66 k s [40] i hi (by omega) (by decide)
  rw [q61_2_eq, show Ak (k + 1) 66 [V.one (X.d (D.str (ba s))), V.one (X.d (D.int IntKind.i64 (Int.ofNat i))), V.one (X.d (D.str (ba [40])))] [] = _ from h66, g_oB]
  cases hc : cutP [40] (s.drop i) with
  | none =>
    rw [Option.isSome_none, Bool.not_false, cond_true]
    exact Res61.fail (v' := .mk 0 0 [])
  | some r =>
    have e := cutP_some hc
    have hlen := congrArg List.length e
    rw [List.length_append, List.length_drop, List.length_cons, List.length_nil] at hlen
    have hd1 : s.drop (i + 1) = r := by rw [← List.drop_drop, e]; rfl
    have hh := L61s k n 3 l [41] s hs (k + 1) (fun i q => if l.length ≤ i then none else readU n (l.getD i default) q) (fun m => decide (m = l.length)) rfl (fun a => by
      rw [T.rows_len, show ((3 : Int) == 4) = false from rfl, cond_false, O8.int_eqb]
      exact decide_eq_decide.2 (by simp only [Int.ofNat_eq_natCast]; omega)) (.inl rfl) h0 hall (fun i q => by rw [if_pos rfl]) hΓ (k + 1) (i + 1) r hd1 (by omega) (by omega) (by omega)
    rw [Option.isSome_some, Bool.not_true, cond_false, q61_3_eq, show ((3 : Int) == 4) = false from rfl, cond_false, q61_4_eq, wrap_up _ (by omega)]
    exact hh
theorem C61l (k n : Nat) (l : List T) (s : Bs) (i : Nat) (hs : s.length ≤ 50000) (hi : i ≤ s.length) (hk : s.length + 5 ≤ k) (h0 : 0 < l.length) (hall : ∀ t ∈ l, deepT n t = true)
    (hΓ : ∀ t ∈ l, ∀ i : Nat, i ≤ s.length → Res61 s (readU n t (s.drop i)) (Ak (k + 1) 61 [t.v, sV (ba s), iV (Int.ofNat i)] [])) :
    Res61 s (match cutP [91] (s.drop i) with | none => none | some r => match cutP [93] r with | some r2 => some (.mk 4 0 [], r2) | none => (loopU (fun _ q => readU n (l.getD 0 default) q) [93] (fun _ => true) (r.length + 1) r []).map fun x => (.mk 4 0 x.1, x.2)) (q61_2 (Ak (k + 1)) (k + 1) (ba s) (Int.ofNat i) (ba [91]) (ba [93]) 4 (T.rows l) 0 0 0 0) := by
  have h66 := C66 k s [91] i hi (by omega) (by decide)
  rw [q61_2_eq, show Ak (k + 1) 66 [V.one (X.d (D.str (ba s))), V.one (X.d (D.int IntKind.i64 (Int.ofNat i))), V.one (X.d (D.str (ba [91])))] [] = _ from h66, g_oB]
  cases hc : cutP [91] (s.drop i) with
  | none =>
    rw [Option.isSome_none, Bool.not_false, cond_true]
    exact Res61.fail (v' := .mk 0 0 [])
  | some r =>
    have e := cutP_some hc
    have hlen := congrArg List.length e
    rw [List.length_append, List.length_drop, List.length_cons, List.length_nil] at hlen
    have hd1 : s.drop (i + 1) = r := by rw [← List.drop_drop, e]; rfl
    have hh := L61s k n 4 l [93] s hs (k + 1) (fun _ q => readU n (l.getD 0 default) q) (fun _ => true) rfl (fun a => rfl) (.inr rfl) h0 hall (fun i q => by rw [if_neg (by decide)]) hΓ (k + 1) (i + 1) r hd1 (by omega) (by omega) (by omega)
    have h66 := C66 k s [93] (i + 1) (by omega) (by omega) (by decide)
    rw [hd1] at h66
    rw [Option.isSome_some, Bool.not_true, cond_false, q61_3_eq, show ((4 : Int) == 4) = true from rfl, cond_true, q61_4_eq, wrap_up _ (by omega), show Ak (k + 1) 66 [V.one (X.d (D.str (ba s))), V.one (X.d (D.int IntKind.i64 (Int.ofNat (i + 1)))), V.one (X.d (D.str (ba [93])))] [] = _ from h66, g_oB]
    show Res61 s (match cutP [93] r with | some r2 => some (W.mk 4 0 [], r2) | none => (loopU (fun _ q => readU n (l.getD 0 default) q) [93] (fun _ => true) (r.length + 1) r []).map fun x => (W.mk 4 0 x.1, x.2)) _
    cases hb : cutP [93] r with
    | some r2 =>
      have h5 := congrArg List.length (cutP_some hb)
      rw [List.length_append, List.length_cons, List.length_nil] at h5
      rw [Option.isSome_some, cond_true]
      refine Res61.ok (v := .mk 4 0 []) ?_
      rw [wrap_up _ (by omega)]
      congr 1; omega
    | none =>
      rw [Option.isSome_none, cond_false]
      exact hh
theorem C61 (s : Bs) (hs : s.length ≤ 50000) : ∀ (n k : Nat) (t : T) (i : Nat), deepT n t = true → i ≤ s.length → s.length + n + 40 ≤ k → Res61 s (readU n t (s.drop i)) (Ak k 61 [t.v, sV (ba s), iV (Int.ofNat i)] []) := by
  intro n
  induction n with
  | zero => intro k t i h; cases h
  | succ n ihn =>
    intro k t i hd hi hk
    obtain ⟨κ, l⟩ := t
    obtain ⟨k, rfl⟩ : ∃ k', k = k' + 1 + 1 := ⟨k - 2, by omega⟩
    have hc := call61 (k + 1) κ (T.rows l) (ba s) (Int.ofNat i)
    rw [e61_eq] at hc
    rw [show Ak (k + 1 + 1) 61 [(T.mk κ l).v, sV (ba s), iV (Int.ofNat i)] [] = _ from hc, O8.int_eqb, O8.int_eqb]
    clear hc
    unfold readU
    unfold deepT at hd
    by_cases h1 : κ = 1
    · subst h1
      have ht := C66 k s trueB i hi (by omega) (by decide)
      have hf := C66 k s falseB i hi (by omega) (by decide)
      rw [decide_eq_true rfl, cond_true, if_pos rfl, show Ak (k + 1) 66 [V.one (X.d (D.str (ba s))), V.one (X.d (D.int IntKind.i64 (Int.ofNat i))), V.one (X.d (D.str (ByteArray.mk #[116, 114, 117, 101])))] [] = _ from ht, g_oB]
      unfold readB
      cases hc : cutP trueB (s.drop i) with
      | some r =>
        have hlen := congrArg List.length (cutP_some hc)
        rw [List.length_append, List.length_drop, show trueB.length = 4 from rfl] at hlen
        rw [Option.isSome_some, cond_true]
        refine Res61.ok (v := .mk 1 1 []) ?_
        rw [wrap_in _ (by simp only [Int.ofNat_eq_natCast]; omega) (by simp only [Int.ofNat_eq_natCast]; omega)]
        simp only [Int.ofNat_eq_natCast]; omega
      | none =>
        rw [Option.isSome_none, cond_false, q61_0_eq, show Ak (k + 1) 66 [V.one (X.d (D.str (ba s))), V.one (X.d (D.int IntKind.i64 (Int.ofNat i))), V.one (X.d (D.str (ByteArray.mk #[102, 97, 108, 115, 101])))] [] = _ from hf, g_oB]
        cases hc2 : cutP falseB (s.drop i) with
        | some r =>
          have hlen := congrArg List.length (cutP_some hc2)
          rw [List.length_append, List.length_drop, show falseB.length = 5 from rfl] at hlen
          refine Res61.ok (v := .mk 1 0 []) ?_
          rw [wrap_in _ (by simp only [Int.ofNat_eq_natCast]; omega) (by simp only [Int.ofNat_eq_natCast]; omega)]
          simp only [Int.ofNat_eq_natCast]; omega
        | none => exact Res61.fail (v' := .mk 1 0 [])
    · rw [decide_eq_false h1, cond_false, if_neg h1]
      by_cases h2 : κ = 2
      · subst h2
        obtain ⟨n', e', ho, he⟩ := C79 (k + 1) i s (by omega) hi (by omega)
        rw [decide_eq_true rfl, cond_true, if_pos rfl, show Ak (k + 1) 79 [V.one (X.d (D.str (ba s))), V.one (X.d (D.int IntKind.i64 (Int.ofNat i)))] [] = _ from ho, g_t3oIoIoB]
        cases hr : readNum (s.drop i) with
        | none => exact Res61.fail (v' := .mk 2 n' [])
        | some p =>
          obtain ⟨v, r⟩ := p
          obtain ⟨rfl, rfl⟩ := he v r hr
          exact Res61.ok (v := .mk 2 n' []) rfl
      · rw [decide_eq_false h2, cond_false, if_neg h2, q61_1_eq, O8.int_eqb]
        rw [if_neg (fun q => q.elim h1 h2)] at hd
        by_cases h3 : κ = 3
        · rw [if_pos h3] at hd
          simp only [Bool.and_eq_true, decide_eq_true_eq, List.all_eq_true] at hd
          subst h3
          rw [if_pos rfl, decide_eq_true rfl, cond_true]
          exact C61t k n l s i hs hi (by omega) (by omega) hd.2 (fun t ht i hi => ihn (k + 1) t i (hd.2 t ht) hi (by omega))
        · rw [if_neg h3] at hd
          by_cases h4 : κ = 4
          · rw [if_pos h4] at hd
            simp only [Bool.and_eq_true, decide_eq_true_eq, List.all_eq_true] at hd
            subst h4
            rw [if_neg h3, decide_eq_false h3, cond_false]
            exact C61l k n l s i hs hi (by omega) (by omega) hd.2 (fun t ht i hi => ihn (k + 1) t i (hd.2 t ht) hi (by omega))
          · rw [if_neg h4] at hd
            cases hd
theorem C35 (k : Nat) (t : T) (s : Bs) (hs : s.length ≤ 50000) (hk : 300000 ≤ k) : Ak k 35 [t.v, sV (ba s)] [] = some (R (parWo t s)) := by
  obtain ⟨k, rfl⟩ : ∃ k', k = k' + 1 := ⟨k - 1, by omega⟩
  refine (call35 k t.k (T.rows t.l) (ba s)).trans ?_
  have h17 := C17 k (by omega) t
  unfold T.v at h17
  rw [e35_eq, h17, g_oB]
  unfold parWo
  cases hd : deepT 40 t with
  | false => rfl
  | true =>
    rw [Bool.not_true, cond_false, if_pos rfl, q35_0_eq, ← parseU_eq]
    obtain ⟨v', e', ho, he⟩ := C61 s hs 40 k t 0 hd (by omega) (by omega)
    unfold T.v at ho
    rw [List.drop_zero] at ho he
    rw [show Ak k 61 [V.agg [X.d (D.int IntKind.i64 t.k), X.d (D.list 2 (T.rows t.l))], V.one (X.d (D.str (ba s))), V.one (X.d (D.int IntKind.i64 0))] [] = _ from ho, W.v, g_t3a3IIL3oIoB]
    unfold parseU
    cases hr : readU 40 t s with
    | none => rfl
    | some p =>
      obtain ⟨v, r⟩ := p
      obtain ⟨rfl, rfl⟩ := he v r hr
      obtain ⟨hinv, hh⟩ := readU_inv _ _ _ _ _ hd hr
      have hz2 := congrArg List.length hinv
      rw [List.length_append] at hz2
      have hz := has_size 40 t v' hd hh
      rw [Option.isSome_some, Bool.not_true, cond_false, O8.int_neb, ba_size]
      cases r with
      | cons c q =>
        rw [decide_eq_false (show ¬ Int.ofNat (s.length - (c :: q).length) = Int.ofNat s.length by simp only [List.length_cons, Int.ofNat_eq_natCast] at *; omega), Bool.not_false, cond_true]
        rfl
      | nil =>
        have h29 := C29 k v' (by omega) (by omega)
        unfold W.v at h29
        rw [decide_eq_true (show Int.ofNat (s.length - ([] : Bs).length) = Int.ofNat s.length by simp), Bool.not_true, cond_false, h29, g_oI]
        have hcap := cap_le v'.size
        show (bif decide (capW v'.size > 1000) then _ else _) = some (R (parW (if (deepT 40 t && decide (v'.size ≤ 1000)) = true then some v' else none)))
        by_cases h : v'.size ≤ 1000
        · rw [decide_eq_true h] at hcap ⊢
          simp only [decide_eq_true_eq] at hcap
          rw [decide_eq_false (show ¬ capW v'.size > 1000 by omega), cond_false, q35_1_eq, hd]
          rfl
        · rw [decide_eq_false h] at hcap ⊢
          simp only [decide_eq_false_iff_not] at hcap
          rw [decide_eq_true (show capW v'.size > 1000 by omega), cond_true, hd]
          rfl
end
end Go.Proofs.YtkpdofiflhjahaaDoor.Ps
