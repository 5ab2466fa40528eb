/- Types: what is the same; texts. -/
import Derived.Test.YtkpdofiflhjahaaDoorF2
namespace Go.Proofs.YtkpdofiflhjahaaDoor.Ps
set_option linter.unusedVariables false
set_option linter.unusedSimpArgs false
open Go Go.RowKit
theorem drop_getD {α : Type} [Inhabited α] (l : List α) (i : Nat) (h : i < l.length) : l.drop i = l.getD i default :: l.drop (i + 1) := by
  rw [List.drop_eq_getElem_cons h, List.getD_eq_getElem?_getD, List.getElem?_eq_getElem h]; rfl
theorem T.beqs_drop (l l' : List T) (i : Nat) (h : i < l.length) (h' : i < l'.length) : T.beqs (l.drop i) (l'.drop i) = (T.beq (l.getD i default) (l'.getD i default) && T.beqs (l.drop (i + 1)) (l'.drop (i + 1))) := by
  rw [drop_getD l i h, drop_getD l' i h', T.beqs]
theorem T.beqs_len : ∀ (l l' : List T), l.length ≠ l'.length → T.beqs l l' = false
  | [], [], h => absurd rfl h
  | [], _ :: _, _ => by rw [T.beqs] <;> simp
  | _ :: _, [], _ => by rw [T.beqs] <;> simp
  | a :: r, b :: s, h => by rw [T.beqs, T.beqs_len r s (by simpa using h), Bool.and_false]
theorem T.beq_def (a b : T) : T.beq a b = (decide (a.k = b.k) && T.beqs a.l b.l) := by cases a; cases b; rw [T.beq]; rfl
theorem T.mem_size {t : T} {l : List T} (h : t ∈ l) : t.size ≤ T.sizes l := by
  induction l with
  | nil => cases h
  | cons a r ih =>
    rw [T.sizes]
    rcases List.mem_cons.1 h with rfl | h
    · omega
    · have := ih h; omega
theorem W.mem_size {t : W} {l : List W} (h : t ∈ l) : t.size ≤ W.sizes l := by
  induction l with
  | nil => cases h
  | cons a r ih =>
    rw [W.sizes]
    rcases List.mem_cons.1 h with rfl | h
    · omega
    · have := ih h; omega
theorem ofNat_neb (a b : Nat) : (Int.ofNat a != Int.ofNat b) = !decide (a = b) := by rw [← ofNat_eqb]; rfl
theorem int_neb (a b : Int) : (a != b) = !decide (a = b) := by
  rw [Bool.eq_iff_iff]; simp
theorem int_eqb (a b : Int) : (a == b) = decide (a = b) := by
  rw [Bool.eq_iff_iff]; simp
theorem L47 (k : Nat) (l l' : List T) (n2 : Nat) (hll : l.length = l'.length) (hl : l.length ≤ 1000000) (hΓ : ∀ a ∈ l, ∀ b : T, Ak k 18 [a.v, b.v] [] = some (R (bV (T.beq a b)))) :
    ∀ (m i : Nat), l.length - i < m → l47_0 m (Ak k) n2 (T.rows l') (T.rows l) (Int.ofNat l.length) (Int.ofNat i) = some (R (bV (T.beqs (l.drop i) (l'.drop i)))) := by
  intro m
  induction m with
  | zero => intro i h; omega
  | succ m ih =>
    intro i h
    rw [l47_0_eq]
    by_cases hi : i < l.length
    · have := hΓ (l.getD i default) (getD_mem l i hi) (l'.getD i default)
      unfold T.v at this
      rw [lt_yes i _ hi, cond_true, q47_1_eq, T.rows_len, T.rows_len, in_range i _ hi, cond_true, in_range i _ (by omega), cond_true, tn, T.rows_at l i hi, T.rows_at l' i (by omega)]
      simp only [getD0, getD1]
      rw [this, g_oB, T.beqs_drop l l' i hi (by omega)]
      cases T.beq (l.getD i default) (l'.getD i default) with
      | false => rfl
      | true => rw [Bool.true_and, ← ih (i + 1) (by omega), Bool.not_true, cond_false, q47_2_eq, wrap_up i (by omega)]
    · rw [lt_no i _ (by omega), cond_false, q47_3_eq, List.drop_eq_nil_of_le (by omega), List.drop_eq_nil_of_le (by omega), T.beqs]
theorem C18 : ∀ (k : Nat) (a b : T), a.size ≤ 1000000 → 2 * a.size + 2 ≤ k → Ak k 18 [a.v, b.v] [] = some (R (bV (T.beq a b)))
  | 0, a, b, _, h => by omega
  | 1, a, b, _, h => by have := a.size_pos; omega
  | k + 2, a, b, hs, hk => by
    have hsz := a.size_eq
    have hlen := T.sizes_len a.l
    refine (call18 (k + 1) a.k (T.rows a.l) b.k (T.rows b.l)).trans ?_
    rw [e18_eq, T.beq_def, int_eqb]
    by_cases h1 : a.k = b.k
    · rw [decide_eq_true h1, cond_true, Bool.true_and]
      have h47 : Ak (k + 1) 47 [V.one (X.d (D.list 2 (T.rows a.l))), V.one (X.d (D.list 2 (T.rows b.l))), V.one (X.fn 18 [])] [] = some (R (bV (T.beqs a.l b.l))) := by
        refine (call47 k (T.rows a.l) (T.rows b.l)).trans ?_
        rw [e47_eq, T.rows_len, T.rows_len, ofNat_neb]
        by_cases h2 : a.l.length = b.l.length
        · rw [decide_eq_true h2, Bool.not_true, cond_false, q47_0_eq, T.rows_len]
          exact L47 k a.l b.l k h2 (by omega) (fun x hx y => C18 k x y (by have := T.mem_size hx; omega) (by have := T.mem_size hx; omega)) k 0 (by omega)
        · rw [decide_eq_false h2, Bool.not_false, cond_true, T.beqs_len _ _ h2]
      rw [h47, g_oB]
    · rw [decide_eq_false h1, cond_false, Bool.false_and]
/-- The reference's. -/
theorem L19 (k : Nat) (x y : Int) (l l' : List T) (n2 : Nat) (hll : l.length = l'.length) (hl : l.length ≤ 1000000) (hΓ : ∀ a ∈ l, ∀ b : T, Ak k 19 [a.v, b.v] [] = some (R (bV (T.beq a b)))) :
    ∀ (m i : Nat), l.length - i < m → l19_0 m (Ak k) n2 (Int.ofNat i) x (T.rows l) y (T.rows l') = some (R (bV (T.beqs (l.drop i) (l'.drop i)))) := by
  intro m
  induction m with
  | zero => intro i h; omega
  | succ m ih =>
    intro i h
    rw [l19_0_eq, T.rows_len]
    by_cases hi : i < l.length
    · have := hΓ (l.getD i default) (getD_mem l i hi) (l'.getD i default)
      unfold T.v at this
      rw [lt_yes i _ hi, cond_true, q19_1_eq, T.rows_len, T.rows_len, in_range i _ hi, cond_true, in_range i _ (by omega), cond_true, tn, T.rows_at l i hi, T.rows_at l' i (by omega)]
      simp only [getD0, getD1]
      rw [this, g_oB, T.beqs_drop l l' i hi (by omega)]
      cases T.beq (l.getD i default) (l'.getD i default) with
      | false => rfl
      | true => rw [Bool.true_and, ← ih (i + 1) (by omega), Bool.not_true, cond_false, q19_2_eq, wrap_up i (by omega)]
    · rw [lt_no i _ (by omega), cond_false, q19_3_eq, List.drop_eq_nil_of_le (by omega), List.drop_eq_nil_of_le (by omega), T.beqs]
theorem C19 : ∀ (k : Nat) (a b : T), a.size ≤ 1000000 → a.size + 2 ≤ k → Ak k 19 [a.v, b.v] [] = some (R (bV (T.beq a b)))
  | 0, a, b, _, h => by omega
  | k + 1, a, b, hs, hk => by
    have hsz := a.size_eq
    have hlen := T.sizes_len a.l
    refine (call19 k a.k (T.rows a.l) b.k (T.rows b.l)).trans ?_
    rw [e19_eq, T.beq_def, int_neb, T.rows_len, T.rows_len, ofNat_neb]
    by_cases h1 : a.k = b.k
    · rw [decide_eq_true h1, Bool.not_true, cond_false, Bool.true_and]
      by_cases h2 : a.l.length = b.l.length
      · rw [decide_eq_true h2, Bool.not_true, cond_false, q19_0_eq]
        exact L19 k a.k b.k a.l b.l k h2 (by omega) (fun x hx y => C19 k x y (by have := T.mem_size hx; omega) (by have := T.mem_size hx; omega)) k 0 (by omega)
      · rw [decide_eq_false h2, Bool.not_false, cond_true, T.beqs_len _ _ h2]
    · rw [decide_eq_false h1, Bool.not_false, cond_true, Bool.false_and]
/-- The law's. -/
theorem L22 (k : Nat) (x y : Int) (l l' : List T) (n2 : Nat) (hll : l.length = l'.length) (hl : l.length ≤ 1000000) (hΓ : ∀ a ∈ l, ∀ b : T, Ak k 22 [a.v, b.v] [] = some (R (bV (T.beq a b)))) :
    ∀ (m i : Nat), l.length - i < m → l22_0 m (Ak k) n2 (Int.ofNat i) x (T.rows l) y (T.rows l') = some (R (bV (T.beqs (l.drop i) (l'.drop i)))) := by
  intro m
  induction m with
  | zero => intro i h; omega
  | succ m ih =>
    intro i h
    rw [l22_0_eq, T.rows_len]
    by_cases hi : i < l.length
    · have := hΓ (l.getD i default) (getD_mem l i hi) (l'.getD i default)
      unfold T.v at this
      rw [lt_yes i _ hi, cond_true, q22_1_eq, T.rows_len, T.rows_len, in_range i _ hi, cond_true, in_range i _ (by omega), cond_true, tn, T.rows_at l i hi, T.rows_at l' i (by omega)]
      simp only [getD0, getD1]
      rw [this, g_oB, T.beqs_drop l l' i hi (by omega)]
      cases T.beq (l.getD i default) (l'.getD i default) with
      | false => rfl
      | true => rw [Bool.true_and, ← ih (i + 1) (by omega), Bool.not_true, cond_false, q22_2_eq, wrap_up i (by omega)]
    · rw [lt_no i _ (by omega), cond_false, q22_3_eq, List.drop_eq_nil_of_le (by omega), List.drop_eq_nil_of_le (by omega), T.beqs]
theorem C22 : ∀ (k : Nat) (a b : T), a.size ≤ 1000000 → a.size + 2 ≤ k → Ak k 22 [a.v, b.v] [] = some (R (bV (T.beq a b)))
  | 0, a, b, _, h => by omega
  | k + 1, a, b, hs, hk => by
    have hsz := a.size_eq
    have hlen := T.sizes_len a.l
    refine (call22 k a.k (T.rows a.l) b.k (T.rows b.l)).trans ?_
    rw [e22_eq, T.beq_def, int_neb, T.rows_len, T.rows_len, ofNat_neb]
    by_cases h1 : a.k = b.k
    · rw [decide_eq_true h1, Bool.not_true, cond_false, Bool.true_and]
      by_cases h2 : a.l.length = b.l.length
      · rw [decide_eq_true h2, Bool.not_true, cond_false, q22_0_eq]
        exact L22 k a.k b.k a.l b.l k h2 (by omega) (fun x hx y => C22 k x y (by have := T.mem_size hx; omega) (by have := T.mem_size hx; omega)) k 0 (by omega)
      · rw [decide_eq_false h2, Bool.not_false, cond_true, T.beqs_len _ _ h2]
    · rw [decide_eq_false h1, Bool.not_false, cond_true, Bool.false_and]

/-! ### texts -/
def ba (l : Bs) : ByteArray := ⟨l.toArray⟩
theorem ba_list (l : Bs) : (ba l).data.toList = l := rfl
theorem ba_of (s : ByteArray) : s = ba s.data.toList := by cases s; rfl
theorem ba_size (l : Bs) : (ba l).size = l.length := by unfold ba ByteArray.size; simp
theorem ba_app (a b : Bs) : ba a ++ ba b = ba (a ++ b) := by
  apply ByteArray.ext
  rw [ByteArray.data_append]
  unfold ba
  simp
def strRows (l : List Bs) : List (List D) := l.map fun s => [D.str (ba s)]
theorem strRows_len (l : List Bs) : (strRows l).length = l.length := by unfold strRows; simp
theorem texts_strRows : ∀ l : List Bs, textsOf (strRows l) = some (l.map ba)
  | [] => rfl
  | s :: r => by
    have e : strRows (s :: r) = [D.str (ba s)] :: strRows r := rfl
    rw [e, textsOf, texts_strRows r]
    rfl
theorem joinB_ba (l : List Bs) (sep : Bs) : joinB (l.map ba) (ba sep) = ba (Lib.join l sep) := by
  unfold joinB
  rw [List.map_map]
  have : (fun x : ByteArray => x.data.toList) ∘ ba = id := by funext x; rfl
  rw [this, List.map_id]; rfl
theorem C48 (k : Nat) (l : List Bs) (sep : Bs) (h1 : l.length ≤ 1000000000) (h2 : (Lib.join l sep).length ≤ 1000000000) :
    Ak (k + 1) 48 [V.one (X.d (D.list 1 (strRows l))), sV (ba sep)] [] = some (R (sV (ba (Lib.join l sep)))) := by
  have e : Ak (k + 1) 48 [V.one (X.d (D.list 1 (strRows l))), sV (ba sep)] [] = joinC (V.one (X.d (D.list 1 (strRows l)))) (ba sep) := rfl
  have e2 : joinC (V.one (X.d (D.list 1 (strRows l)))) (ba sep) = (textsOf (strRows l)).bind fun l' => cond (Nat.ble l'.length 140737488355328 && Nat.ble (Lib.join (l'.map (·.data.toList)) (ba sep).data.toList).length 140737488355328) (some (R (dv (.str (joinB l' (ba sep)))))) none := rfl
  rw [e, e2, texts_strRows, Option.bind_some, joinB_ba]
  have e3 : (l.map ba).map (fun x : ByteArray => x.data.toList) = l := by
    rw [List.map_map]
    have : (fun x : ByteArray => x.data.toList) ∘ ba = id := by funext x; rfl
    rw [this, List.map_id]
  rw [e3, ba_list, List.length_map]
  rw [show Nat.ble l.length 140737488355328 = true from Nat.ble_eq_true_of_le (by omega), show Nat.ble (Lib.join l sep).length 140737488355328 = true from Nat.ble_eq_true_of_le (by omega)]
  rfl
theorem C48n (k : Nat) (sep : Bs) : Ak (k + 1) 48 [V.one (X.nilL 1), sV (ba sep)] [] = some (R (sV (ba []))) := rfl
theorem textT_len : ∀ t : T, (textT t).length + 2 ≤ 6 * t.size := by
  suffices ∀ n, ∀ t : T, t.size ≤ n → (textT t).length + 2 ≤ 6 * t.size from fun t => this _ t (Nat.le_refl _)
  intro n
  induction n with
  | zero => intro t h; have := t.size_pos; omega
  | succ n ih =>
    intro t h
    obtain ⟨κ, l⟩ := t
    have hsz : (T.mk κ l).size = 1 + T.sizes l := by rw [T.size]
    have join : ∀ l' : List T, T.sizes l' ≤ n → (Lib.join (textTs l') sepB).length ≤ 6 * T.sizes l' := by
      intro l'
      induction l' with
      | nil => intro _; rw [textTs, T.sizes, Lib.join_nil]; simp
      | cons a r ih2 =>
        intro h2
        rw [T.sizes] at h2
        have h3 := ih a (by omega)
        cases r with
        | nil => rw [textTs, textTs, Lib.join_one, T.sizes, T.sizes]; omega
        | cons b r =>
          have h4 := ih2 (by omega)
          rw [textTs, textTs, join_two, List.length_append, List.length_append, ← textTs, T.sizes]
          have : sepB.length = 2 := rfl
          omega
    have h5 := join l (by omega)
    unfold textT
    split
    · simp only [List.length_cons, List.length_nil]; omega
    · split
      · simp only [List.length_cons, List.length_nil]; omega
      · split
        · simp only [List.length_append, List.length_cons, List.length_nil]; omega
        · split
          · simp only [List.length_append, List.length_cons, List.length_nil]; omega
          · simp only [List.length_cons, List.length_nil]; omega
theorem join_textTs_len : ∀ l : List T, (Lib.join (textTs l) sepB).length ≤ 6 * T.sizes l
  | [] => by rw [textTs, T.sizes, Lib.join_nil]; simp
  | [a] => by rw [textTs, textTs, Lib.join_one, T.sizes, T.sizes]; have := textT_len a; omega
  | a :: b :: r => by
    rw [textTs, textTs, join_two, List.length_append, List.length_append, ← textTs, T.sizes]
    have := join_textTs_len (b :: r)
    have := textT_len a
    have : sepB.length = 2 := rfl
    omega
theorem ble_t {a b : Nat} (h : a ≤ b) : Nat.ble a b = true := Nat.ble_eq_true_of_le h
/-- What stands behind the loop. -/
theorem fin20 (k : Nat) (Γ : SemL) (κ : Int) (x : Bs) (hx : x.length ≤ 1000000000) :
    (bif κ == 1 then some (Out.mk true (V.one (X.d (D.str (ByteArray.mk #[98, 111, 111, 108])))) D.junk [] 0) else bif κ == 2 then some (Out.mk true (V.one (X.d (D.str (ByteArray.mk #[105, 110, 116])))) D.junk [] 0)
      else bif κ == 3 then bif Nat.ble (1 + ByteArray.size (ba x)) 9223372036854775807 then bif Nat.ble (ByteArray.size (ByteArray.mk #[40] ++ ba x) + 1) 9223372036854775807 then some (Out.mk true (V.one (X.d (D.str (ByteArray.mk #[40] ++ ba x ++ ByteArray.mk #[41])))) D.junk [] 0) else none else none
      else bif κ == 4 then bif Nat.ble (1 + ByteArray.size (ba x)) 9223372036854775807 then bif Nat.ble (ByteArray.size (ByteArray.mk #[91] ++ ba x) + 1) 9223372036854775807 then some (Out.mk true (V.one (X.d (D.str (ByteArray.mk #[91] ++ ba x ++ ByteArray.mk #[93])))) D.junk [] 0) else none else none else q20_3 Γ k) =
    some (R (sV (ba (if κ = 1 then [98, 111, 111, 108] else if κ = 2 then [105, 110, 116] else if κ = 3 then [40] ++ x ++ [41] else if κ = 4 then [91] ++ x ++ [93] else [63])))) := by
  have e40 : (ByteArray.mk #[40]) = ba [40] := rfl
  have e41 : (ByteArray.mk #[41]) = ba [41] := rfl
  have e91 : (ByteArray.mk #[91]) = ba [91] := rfl
  have e93 : (ByteArray.mk #[93]) = ba [93] := rfl
  rw [e40, e41, e91, e93, ba_app, ba_app, ba_app, ba_app, ba_size, ba_size, ba_size, ble_t (by omega), ble_t (by simp; omega), ble_t (by simp; omega), q20_3_eq]
  simp only [int_eqb]
  by_cases h1 : κ = 1
  · subst h1; rfl
  · by_cases h2 : κ = 2
    · subst h2; rfl
    · by_cases h3 : κ = 3
      · subst h3; rfl
      · by_cases h4 : κ = 4
        · subst h4; rfl
        · rw [decide_eq_false h1, decide_eq_false h2, decide_eq_false h3, decide_eq_false h4, if_neg h1, if_neg h2, if_neg h3, if_neg h4]; rfl
theorem L20 (k : Nat) (κ : Int) (l : List T) (q : List (List D)) (n2 : Nat) (hl : T.sizes l ≤ 1000000) (hk : 1 ≤ k) (hΓ : ∀ t ∈ l, Ak k 20 [t.v] [] = some (R (sV (ba (textT t))))) :
    ∀ (m i : Nat) (acc : List Bs), acc ++ textTs (l.drop i) = textTs l → acc.length ≤ l.length → l.length - i < m → l20_0_v1 m (Ak k) n2 (strRows acc) (T.rows l) (Int.ofNat l.length) (Int.ofNat i) κ q = some (R (sV (ba (textT (.mk κ l))))) := by
  intro m
  have hlen := T.sizes_len l
  induction m with
  | zero => intro i acc _ _ h; omega
  | succ m ih =>
    intro i acc ha hal h
    rw [l20_0_v1_eq]
    by_cases hi : i < l.length
    · have := hΓ (l.getD i default) (getD_mem l i hi)
      unfold T.v at this
      rw [lt_yes i _ hi, cond_true, q20_0_v1_eq, T.rows_len, in_range i _ hi, cond_true, tn, T.rows_at l i hi, getD0, getD1, this, g_oS, strRows_len, ble_t (by simp only [List.length_cons, List.length_nil]; omega)]
      have e : strRows acc ++ [[D.str (ba (textT (l.getD i default)))]] = strRows (acc ++ [textT (l.getD i default)]) := by unfold strRows; simp
      rw [e]
      simp only [Bool.and_self, cond_true]
      rw [q20_1_eq, wrap_up i (by omega)]
      have ha2 : (acc ++ [textT (l.getD i default)]) ++ textTs (l.drop (i + 1)) = textTs l := by
        rw [← ha, drop_getD l i hi, textTs]; simp
      refine ih (i + 1) _ ha2 ?_ (by omega)
      have := congrArg List.length ha2
      rw [List.length_append, textTs_map, textTs_map, List.length_map, List.length_map, List.length_drop] at this
      omega
    · rw [lt_no i _ (by omega), cond_false, q20_2_v1_eq]
      have hacc : acc = textTs l := by rw [← ha, List.drop_eq_nil_of_le (by omega), textTs]; simp
      subst hacc
      have hj := join_textTs_len l
      obtain ⟨k, rfl⟩ : ∃ k', k = k' + 1 := ⟨k - 1, by omega⟩
      have hc := C48 k (textTs l) sepB (by rw [textTs_map, List.length_map]; omega) (by omega)
      show r_oS (Ak (k + 1) 48 [V.one (X.d (D.list 1 (strRows (textTs l)))), V.one (X.d (D.str (ba sepB)))] []) [] _ = _
      rw [hc, g_oS, fin20 _ _ _ _ (by omega), textT]
theorem strRows_one (s : Bs) : [[D.str (ba s)]] = strRows [s] := rfl
theorem C20 : ∀ (k : Nat) (t : T), t.size ≤ 1000000 → t.size + 3 ≤ k → Ak k 20 [t.v] [] = some (R (sV (ba (textT t))))
  | 0, t, _, h => by omega
  | k + 1, t, hs, hk => by
    have hsz := t.size_eq
    have hlen := T.sizes_len t.l
    obtain ⟨κ, l⟩ := t
    simp only [T.l, T.k] at *
    refine (call20 k κ (T.rows l)).trans ?_
    rw [e20_eq, T.rows_len]
    have hΓ : ∀ t ∈ l, Ak k 20 [t.v] [] = some (R (sV (ba (textT t)))) := fun x hx => C20 k x (by have := T.mem_size hx; omega) (by have := T.mem_size hx; omega)
    obtain ⟨k, rfl⟩ : ∃ k', k = k' + 1 := ⟨k - 1, by omega⟩
    rw [l20_0_eq]
    by_cases hi : 0 < l.length
    · have := hΓ (l.getD 0 default) (getD_mem l 0 hi)
      unfold T.v at this
      rw [show (0 : Int) = Int.ofNat 0 from rfl, lt_yes 0 _ hi, cond_true, q20_0_eq, T.rows_len, in_range 0 _ hi, cond_true, tn, T.rows_at l 0 hi, getD0, getD1, this, g_oS, q20_1_eq, wrap_up 0 (by omega), strRows_one]
      exact L20 (k + 1) κ l (T.rows l) (k + 1) (by omega) (by omega) hΓ k 1 [textT (l.getD 0 default)] (by rw [← List.drop_zero (l := l), drop_getD l 0 hi, textTs]; simp) (by simp; omega) (by omega)
    · rw [show (0 : Int) = Int.ofNat 0 from rfl, lt_no 0 _ (by omega), cond_false, q20_2_eq]
      have hl0 : l = [] := List.eq_nil_of_length_eq_zero (by omega)
      subst hl0
      show r_oS (Ak (k + 1) 48 [V.one (X.nilL 1), sV (ba sepB)] []) [] _ = _
      rw [C48n, g_oS, fin20 _ _ _ _ (by simp), textT, textTs, Lib.join_nil]
end Go.Proofs.YtkpdofiflhjahaaDoor.Ps
