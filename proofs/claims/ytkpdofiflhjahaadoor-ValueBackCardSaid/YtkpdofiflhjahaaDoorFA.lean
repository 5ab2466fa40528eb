/- How many parts: the laws' guards. -/
import Derived.Test.YtkpdofiflhjahaaDoorPvA
import Derived.Test.YtkpdofiflhjahaaDoorVA
import Derived.Test.YtkpdofiflhjahaaDoorPvT
import Derived.Test.YtkpdofiflhjahaaDoorPvL3
import Derived.Test.YtkpdofiflhjahaaDoorVk
namespace Go.Proofs.YtkpdofiflhjahaaDoor.Ps
section
set_option linter.unusedVariables false
open Go Go.RowKit
theorem T.size_eq (t : T) : t.size = 1 + T.sizes t.l := by cases t; rw [T.size]; rfl
theorem W.size_eq (t : W) : t.size = 1 + W.sizes t.l := by cases t; rw [W.size]; rfl
theorem T.sizes_drop (l : List T) (i : Nat) (h : i < l.length) : T.sizes (l.drop i) = (l.getD i default).size + T.sizes (l.drop (i + 1)) := by
  rw [List.drop_eq_getElem_cons h, T.sizes, List.getD_eq_getElem?_getD, List.getElem?_eq_getElem h]; rfl
theorem W.sizes_drop (l : List W) (i : Nat) (h : i < l.length) : W.sizes (l.drop i) = (l.getD i default).size + W.sizes (l.drop (i + 1)) := by
  rw [List.drop_eq_getElem_cons h, W.sizes, List.getD_eq_getElem?_getD, List.getElem?_eq_getElem h]; rfl
theorem T.size_pos (t : T) : 1 ≤ t.size := by rw [T.size_eq]; omega
theorem W.size_pos (t : W) : 1 ≤ t.size := by rw [W.size_eq]; omega
/-- Counting from n on, no further than one above the most. -/
def capL (n s most : Int) : Int := if most < n then n else if n + s ≤ most then n + s else most + 1
theorem capL_mono {n s most : Int} (h : 0 ≤ s) : n ≤ capL n s most := by unfold capL; split <;> (try split) <;> omega
theorem retI {a b : Int} (h : a = b) : some (R (iV a)) = some (R (iV b)) := by rw [h]
theorem retB {a b : Bool} (h : a = b) : some (R (bV a)) = some (R (bV b)) := by rw [h]
theorem retS {a b : ByteArray} (h : a = b) : some (R (sV a)) = some (R (sV b)) := by rw [h]
theorem retP {p q : Prop} [Decidable p] [Decidable q] (h : p ↔ q) : some (R (bV (decide p))) = some (R (bV (decide q))) := retB (decide_eq_decide.2 h)
theorem cond_t {α : Type} {c : Bool} (a b : α) (h : c = true) : (bif c then a else b) = a := by rw [h]; rfl
theorem cond_f {α : Type} {c : Bool} (a b : α) (h : c = false) : (bif c then a else b) = b := by rw [h]; rfl

section
variable (k : Nat)
/-! ### types -/
theorem L41 (most : Int) (hm : most ≤ 1000000) (d : Nat) (hΓ : ∀ (c : T) (n : Int), 0 ≤ n → n ≤ most → (most + 1 - n).toNat ≤ d → Ak k 41 [c.v, iV n, iV most] [] = some (R (iV (capL (n + 1) (c.size - 1 : Nat) most)))) (l : List T) (x3 : Int) (n2 : Nat) :
    ∀ (m i : Nat) (n : Int), (i : Int) ≤ n → n ≤ 4611686018427387905 → (most + 1 - n).toNat ≤ d → (most + 1 - n).toNat < m → l41_0 m (Ak k) n2 n most (Int.ofNat i) x3 (T.rows l) = some (R (iV (capL n (T.sizes (l.drop i)) most))) := by
  intro m
  induction m with
  | zero => intro i n _ _ _ h; omega
  | succ m ih =>
    intro i n hi h1 hd h
    rw [l41_0_eq, T.rows_len]
    by_cases hl : i < l.length
    · rw [lt_yes i _ hl, cond_true]
      by_cases hn : n ≤ most
      · rw [decide_eq_true hn, cond_true, q41_0_eq, T.rows_len, in_range i _ hl, cond_true, tn, T.rows_at l i hl, getD0, getD1, hΓ (l.getD i default) n (by omega) hn hd, g_oI, q41_1_eq, wrap_up i (by omega)]
        have h3 := T.size_pos (l.getD i default)
        have h4 : n + 1 ≤ capL (n + 1) ((l.getD i default).size - 1 : Nat) most := capL_mono (by omega)
        have h6 : capL (n + 1) ((l.getD i default).size - 1 : Nat) most ≤ most + 1 := by unfold capL; split <;> (try split) <;> omega
        rw [ih (i + 1) _ (by omega) (by omega) (by omega) (by omega), T.sizes_drop l i hl]
        refine retI ?_
        unfold capL
        split <;> split <;> (try split) <;> (try split) <;> omega
      · rw [decide_eq_false hn, cond_false, q41_2_eq]
        refine retI ?_
        unfold capL
        rw [if_pos (by omega)]
    · rw [lt_no i _ (by omega), cond_false, q41_2_eq, List.drop_eq_nil_of_le (by omega), T.sizes]
      refine retI ?_
      unfold capL
      split <;> (try split) <;> omega
end
theorem C41 (most : Int) (hm : most ≤ 1000000) : ∀ (d k : Nat) (t : T) (n : Int), 0 ≤ n → n ≤ 4611686018427387904 → (most + 1 - n).toNat ≤ d → d + 2 ≤ k → Ak k 41 [t.v, iV n, iV most] [] = some (R (iV (capL (n + 1) (t.size - 1 : Nat) most)))
  | d, 0, t, n, _, _, _, h => by omega
  | d, k + 1, t, n, h0, h1, hd, hk => by
    refine (call41 k t.k (T.rows t.l) n most).trans ?_
    rw [e41_eq, wrap_in (n + 1) (by omega) (by omega)]
    have e : t.size - 1 = T.sizes (t.l.drop 0) := by rw [T.size_eq, List.drop_zero]; omega
    rw [e]
    refine L41 k most hm (d - 1) (fun c n' h2 h3 h4 => C41 most hm (d - 1) k c n' h2 (by omega) h4 (by omega)) t.l t.k k k 0 (n + 1) (by omega) (by omega) (by omega) (by omega)
termination_by d k => k
theorem T.sizes_len : ∀ l : List T, l.length ≤ T.sizes l
  | [] => by simp
  | t :: r => by rw [T.sizes, List.length_cons]; have := T.sizes_len r; have := t.size_pos; omega
theorem W.sizes_len : ∀ l : List W, l.length ≤ W.sizes l
  | [] => by simp
  | t :: r => by rw [W.sizes, List.length_cons]; have := W.sizes_len r; have := t.size_pos; omega
/-- FewTypes. -/
theorem L12 (k : Nat) (most : Int) (h0 : 0 ≤ most) (hm : most ≤ 10000) (hk : 10004 ≤ k) (l : List T) (hll : l.length ≤ 10) (n2 : Nat) :
    ∀ (m i : Nat) (n : Int), i ≤ l.length → 0 ≤ n → n ≤ most + 1 + i → l.length - i < m → l12_0 m (Ak k) n2 most (T.rows l) n (Int.ofNat i) = some (R (bV (decide (capL n (T.sizes (l.drop i)) most ≤ most)))) := by
  intro m
  induction m with
  | zero => intro i n _ _ _ h; omega
  | succ m ih =>
    intro i n hi h1 h2 h
    rw [l12_0_eq, T.rows_len]
    by_cases hl : i < l.length
    · rw [lt_yes i _ hl, cond_true, q12_0_eq, T.rows_len, in_range i _ hl, cond_true, tn, T.rows_at l i hl, getD0, getD1,
        C41 most (by omega) 10001 k (l.getD i default) n h1 (by omega) (by omega) (by omega), g_oI, q12_1_eq, wrap_up i (by omega)]
      have h3 := T.size_pos (l.getD i default)
      have h4 : n + 1 ≤ capL (n + 1) ((l.getD i default).size - 1 : Nat) most := capL_mono (by omega)
      have h5 : capL (n + 1) ((l.getD i default).size - 1 : Nat) most ≤ most + 1 + (i + 1 : Nat) := by unfold capL; split <;> (try split) <;> omega
      rw [ih (i + 1) _ (by omega) (by omega) h5 (by omega), T.sizes_drop l i hl]
      refine retP ?_
      unfold capL
      split <;> split <;> (try split) <;> (try split) <;> omega
    · rw [lt_no i _ (by omega), cond_false, q12_2_eq, List.drop_eq_nil_of_le (by omega), T.sizes]
      refine retP ?_
      unfold capL
      split <;> (try split) <;> omega
theorem C12 (k : Nat) (most : Int) (h0 : 0 ≤ most) (hm : most ≤ 10000) (hk : 10004 ≤ k) (l : List T) (hll : l.length ≤ 10) : Ak (k + 1) 12 [iV most, V.one (X.d (D.list 2 (T.rows l)))] [] = some (R (bV (decide ((T.sizes l : Int) ≤ most)))) := by
  refine (call12 k most (T.rows l)).trans ?_
  rw [e12_eq]
  refine (L12 k most h0 hm hk l hll k k 0 0 (by omega) (by omega) (by omega) (by omega)).trans ?_
  refine retP ?_
  rw [List.drop_zero]
  unfold capL
  split <;> (try split) <;> omega

/-! ### values -/
theorem L50 (k : Nat) (most : Int) (hm : most ≤ 1000000) (d : Nat) (hΓ : ∀ (c : W) (n : Int), 0 ≤ n → n ≤ most → (most + 1 - n).toNat ≤ d → Ak k 50 [c.v, iV n, iV most] [] = some (R (iV (capL (n + 1) (c.size - 1 : Nat) most)))) (l : List W) (x3 x4 : Int) (n2 : Nat) :
    ∀ (m i : Nat) (n : Int), (i : Int) ≤ n → n ≤ 4611686018427387905 → (most + 1 - n).toNat ≤ d → (most + 1 - n).toNat < m → l50_0 m (Ak k) n2 n most (Int.ofNat i) x3 x4 (W.rows l) = some (R (iV (capL n (W.sizes (l.drop i)) most))) := by
  intro m
  induction m with
  | zero => intro i n _ _ _ h; omega
  | succ m ih =>
    intro i n hi h1 hd h
    rw [l50_0_eq, W.rows_len]
    by_cases hl : i < l.length
    · rw [lt_yes i _ hl, cond_true]
      by_cases hn : n ≤ most
      · rw [decide_eq_true hn, cond_true, q50_0_eq, W.rows_len, in_range i _ hl, cond_true, tn, W.rows_at l i hl, getD0, getD1, getD2, hΓ (l.getD i default) n (by omega) hn hd, g_oI, q50_1_eq, wrap_up i (by omega)]
        have h3 := W.size_pos (l.getD i default)
        have h4 : n + 1 ≤ capL (n + 1) ((l.getD i default).size - 1 : Nat) most := capL_mono (by omega)
        have h6 : capL (n + 1) ((l.getD i default).size - 1 : Nat) most ≤ most + 1 := by unfold capL; split <;> (try split) <;> omega
        rw [ih (i + 1) _ (by omega) (by omega) (by omega) (by omega), W.sizes_drop l i hl]
        refine retI ?_
        unfold capL
        split <;> split <;> (try split) <;> (try split) <;> omega
      · rw [decide_eq_false hn, cond_false, q50_2_eq]
        refine retI ?_
        unfold capL
        rw [if_pos (by omega)]
    · rw [lt_no i _ (by omega), cond_false, q50_2_eq, List.drop_eq_nil_of_le (by omega), W.sizes]
      refine retI ?_
      unfold capL
      split <;> (try split) <;> omega
theorem C50 (most : Int) (hm : most ≤ 1000000) : ∀ (d k : Nat) (t : W) (n : Int), 0 ≤ n → n ≤ 4611686018427387904 → (most + 1 - n).toNat ≤ d → d + 2 ≤ k → Ak k 50 [t.v, iV n, iV most] [] = some (R (iV (capL (n + 1) (t.size - 1 : Nat) most)))
  | d, 0, t, n, _, _, _, h => by omega
  | d, k + 1, t, n, h0, h1, hd, hk => by
    refine (call50 k t.k t.n (W.rows t.l) n most).trans ?_
    rw [e50_eq, wrap_in (n + 1) (by omega) (by omega)]
    have e : t.size - 1 = W.sizes (t.l.drop 0) := by rw [W.size_eq, List.drop_zero]; omega
    rw [e]
    refine L50 k most hm (d - 1) (fun c n' h2 h3 h4 => C50 most hm (d - 1) k c n' h2 (by omega) h4 (by omega)) t.l t.k t.n k k 0 (n + 1) (by omega) (by omega) (by omega) (by omega)
termination_by d k => k
/-- Few, where the list is short or long: a long list has many parts. -/
theorem L23 (k : Nat) (most : Int) (h0 : 0 ≤ most) (hm : most ≤ 10000) (hk : 10004 ≤ k) (l : List W) (hll : l.length ≤ 1000000000000000) (n2 : Nat) :
    ∀ (m i : Nat) (n : Int), i ≤ l.length → 0 ≤ n → n ≤ most + 1 + i → l.length - i < m → l23_0 m (Ak k) n2 most (W.rows l) n (Int.ofNat i) = some (R (bV (decide (capL n (W.sizes (l.drop i)) most ≤ most)))) := by
  intro m
  induction m with
  | zero => intro i n _ _ _ h; omega
  | succ m ih =>
    intro i n hi h1 h2 h
    rw [l23_0_eq, W.rows_len]
    by_cases hl : i < l.length
    · rw [lt_yes i _ hl, cond_true, q23_0_eq, W.rows_len, in_range i _ hl, cond_true, tn, W.rows_at l i hl, getD0, getD1, getD2,
        C50 most (by omega) 10001 k (l.getD i default) n h1 (by omega) (by omega) (by omega), g_oI, q23_1_eq, wrap_up i (by omega)]
      have h3 := W.size_pos (l.getD i default)
      have h4 : n + 1 ≤ capL (n + 1) ((l.getD i default).size - 1 : Nat) most := capL_mono (by omega)
      have h5 : capL (n + 1) ((l.getD i default).size - 1 : Nat) most ≤ most + 1 + (i + 1 : Nat) := by unfold capL; split <;> (try split) <;> omega
      rw [ih (i + 1) _ (by omega) (by omega) h5 (by omega), W.sizes_drop l i hl]
      refine retP ?_
      unfold capL
      split <;> split <;> (try split) <;> (try split) <;> omega
    · rw [lt_no i _ (by omega), cond_false, q23_2_eq, List.drop_eq_nil_of_le (by omega), W.sizes]
      refine retP ?_
      unfold capL
      split <;> (try split) <;> omega
theorem C23 (k : Nat) (most : Int) (h0 : 0 ≤ most) (hm : most ≤ 10000) (hk : 10004 ≤ k) (l : List W) (hll : l.length ≤ 1000000000000000) (hkl : l.length < k) : Ak (k + 1) 23 [iV most, V.one (X.d (D.list 3 (W.rows l)))] [] = some (R (bV (decide ((W.sizes l : Int) ≤ most)))) := by
  refine (call23 k most (W.rows l)).trans ?_
  rw [e23_eq]
  refine (L23 k most h0 hm hk l hll k k 0 0 (by omega) (by omega) (by omega) (by omega)).trans ?_
  refine retP ?_
  rw [List.drop_zero]
  unfold capL
  split <;> (try split) <;> omega
end
section
set_option linter.unusedVariables false
set_option linter.unusedSimpArgs false
open Go Go.RowKit
theorem all_drop {α : Type} [Inhabited α] (p : α → Bool) (l : List α) (i : Nat) (h : i < l.length) : (l.drop i).all p = (p (l.getD i default) && (l.drop (i + 1)).all p) := by
  rw [List.drop_eq_getElem_cons h, List.all_cons, List.getD_eq_getElem?_getD, List.getElem?_eq_getElem h]; rfl
theorem drop_all {α : Type} (p : α → Bool) (l : List α) (i : Nat) (h : l.length ≤ i) : (l.drop i).all p = true := by rw [List.drop_eq_nil_of_le h]; rfl
theorem getD_mem {α : Type} [Inhabited α] (l : List α) (i : Nat) (h : i < l.length) : l.getD i default ∈ l := by
  rw [List.getD_eq_getElem?_getD, List.getElem?_eq_getElem h]; exact List.getElem_mem h
def rI (n : Int) : List (List Lf × List D) := [([Lf.int IntKind.i64], [D.int IntKind.i64 n])]
theorem L84 (k n : Nat) (x : Int) (l : List T) (n2 : Nat) (z : Int) (hl : l.length ≤ 1000000)
    (hΓ : ∀ t ∈ l, Ak k 68 [t.v, V.one (X.ptr 0 0)] (rI x) = some (Out.mk true (bV (!deepT n t)) .junk [[D.int IntKind.i64 x]] 0)) :
    ∀ (m i : Nat), l.length - i < m → ∃ j : Int, l84_0 m (Ak k) n2 z (T.rows l) (Int.ofNat l.length) (Int.ofNat i) x = some (Out.mk true (iV j) .junk [[D.int IntKind.i64 x]] 0) ∧ decide (j ≥ 0) = !(l.drop i).all (deepT n) := by
  intro m
  induction m with
  | zero => intro i h; omega
  | succ m ih =>
    intro i h
    rw [l84_0_eq]
    by_cases hi : i < l.length
    · rw [lt_yes i _ hi, cond_true, q84_0_eq, T.rows_len, in_range i _ hi, cond_true, tn, T.rows_at l i hi, getD0, getD1]
      have := hΓ (l.getD i default) (getD_mem l i hi)
      unfold T.v rI at this
      rw [this]
      simp only [Option.bind_some, getD0, getD1, getD2, isInt_i, Bool.and_true, Bool.true_and, Bool.and_self, cond_true, cond_false, len_1, len_2, len_3, isOne1, isTup2, isTup3, isAgg2, isAgg3, comp0, comp1, comp2, cell1, cella0, cella1, cella2, isD_d, dd_d, isBool_b, bit_b, num_i, isStr_s, bytes_s, isList_2, isList_3, rows_l, nb_0]
      cases hd : deepT n (l.getD i default) with
      | false =>
        refine ⟨(i : Int), rfl, ?_⟩
        rw [all_drop _ l i hi, hd]
        simp
      | true =>
        obtain ⟨j, h1, h2⟩ := ih (i + 1) (by omega)
        refine ⟨j, ?_, ?_⟩
        · rw [q84_1_eq, wrap_up i (by omega)]
          exact h1
        · rw [h2, all_drop _ l i hi, hd, Bool.true_and]
    · refine ⟨-1, ?_, ?_⟩
      · rw [lt_no i _ (by omega), cond_false, q84_2_eq]
      · rw [drop_all _ l i (by omega)]; rfl
theorem ofNat_eqb (a b : Nat) : (Int.ofNat a == Int.ofNat b) = decide (a = b) := by
  rw [Bool.eq_iff_iff, decide_eq_true_iff, beq_iff_eq]
  exact ⟨Int.ofNat.inj, fun h => by rw [h]⟩
theorem C45 : ∀ (n k : Nat) (t : T), n ≤ 1000 → 5 * n + 10 ≤ k → Ak k 45 [t.v, iV n] [] = some (R (bV (deepT n t)))
  | n, 0, t, _, h => by omega
  | 0, k + 1, t, _, _ => by
    refine (call45 k t.k (T.rows t.l) 0).trans ?_
    rw [e45_eq]
    rfl
  | n + 1, k + 1, t, hn, hk => by
    refine (call45 k t.k (T.rows t.l) (n + 1 : Nat)).trans ?_
    obtain ⟨κ, l⟩ := t
    rw [e45_eq, decide_eq_false (by omega), cond_false, q45_0_eq]
    simp only [T.k, T.l]
    have go : ∀ b : Bool, q45_1 (Ak k) k κ b κ (T.rows l) (n + 1 : Nat) = some (R (bV (bif b then l.isEmpty else if κ = 3 then decide (2 ≤ l.length) && decide (l.length ≤ 4) && l.all (deepT n) else if κ = 4 then decide (l.length = 1) && l.all (deepT n) else false))) := by
      intro b
      rw [q45_1_eq, T.rows_len]
      cases b with
      | true =>
        rw [cond_true, cond_true]
        refine retB ?_
        cases l <;> simp
        omega
      | false =>
        rw [cond_false, cond_false]
        have last : l.length ≤ 4 → q45_2 (Ak k) k κ (T.rows l) (n + 1 : Nat) = some (R (bV (l.all (deepT n)))) := by
          intro h4
          obtain ⟨k3, rfl⟩ : ∃ k3, k = k3 + 3 := ⟨k - 3, by omega⟩
          have h68 : ∀ t ∈ l, Ak (k3 + 1) 68 [t.v, V.one (X.ptr 0 0)] (rI (n + 1 : Nat)) = some (Out.mk true (bV (!deepT n t)) .junk [[D.int IntKind.i64 (n + 1 : Nat)]] 0) := fun t ht => by
            refine (call68 k3 t.k (T.rows t.l) (n + 1 : Nat)).trans ?_
            rw [e68_eq, wrap_in _ (by omega) (by omega)]
            have e : ((n + 1 : Nat) : Int) - 1 = (n : Int) := by omega
            rw [e]
            have := C45 n k3 t (by omega) (by omega)
            unfold T.v at this
            rw [this, g_oB]
          obtain ⟨j, h1, h2⟩ := L84 (k3 + 1) n (n + 1 : Nat) l (k3 + 1) (n + 1 : Nat) (by omega) h68 (k3 + 1) 0 (by omega)
          have h84 : Ak (k3 + 2) 84 [V.one (X.d (D.list 2 (T.rows l))), V.one (X.fn 68 [X.ptr 0 0])] (rI (n + 1 : Nat)) = some (Out.mk true (iV j) .junk [[D.int IntKind.i64 (n + 1 : Nat)]] 0) := by
            refine (call84 (k3 + 1) (T.rows l) (n + 1 : Nat)).trans ?_
            rw [e84_eq, T.rows_len]
            exact h1
          have h67 : Ak (k3 + 3) 67 [V.one (X.d (D.list 2 (T.rows l))), V.one (X.fn 68 [X.ptr 0 0])] (rI (n + 1 : Nat)) = some (Out.mk true (bV (!l.all (deepT n))) .junk [[D.int IntKind.i64 (n + 1 : Nat)]] 0) := by
            refine (call67 (k3 + 2) (T.rows l) (n + 1 : Nat)).trans ?_
            unfold rI at h84
            rw [e67_eq, h84]
            refine Eq.trans (b := some (Out.mk true (bV (decide (j ≥ 0))) D.junk [[D.int IntKind.i64 (n + 1 : Nat)]] 0)) rfl ?_
            rw [h2, List.drop_zero]
          unfold rI at h67
          rw [q45_2_eq, h67]
          simp only [Option.bind_some, getD0, getD1, getD2, isInt_i, Bool.and_true, Bool.true_and, Bool.and_self, cond_true, cond_false, len_1, len_2, len_3, isOne1, isTup2, isTup3, isAgg2, isAgg3, comp0, comp1, comp2, cell1, cella0, cella1, cella2, isD_d, dd_d, isBool_b, bit_b, num_i, isStr_s, bytes_s, isList_2, isList_3, rows_l, nb_0, Bool.not_not]
        by_cases h3 : κ = 3
        · subst h3
          rw [if_pos rfl]
          show (bif decide (Int.ofNat l.length < 2) then _ else _) = _
          by_cases h2 : 2 ≤ l.length
          · rw [decide_eq_false (by simp only [Int.ofNat_eq_natCast]; omega), cond_false]
            by_cases h4 : l.length ≤ 4
            · rw [decide_eq_false (by simp only [Int.ofNat_eq_natCast]; omega), cond_false, last h4]
              simp [h2, h4]
            · rw [decide_eq_true (by simp only [Int.ofNat_eq_natCast]; omega), cond_true]
              simp [h4]
          · rw [decide_eq_true (by simp only [Int.ofNat_eq_natCast]; omega), cond_true]
            simp [h2]
        · rw [if_neg h3]
          have e3 : (κ == 3) = false := by simp [h3]
          rw [e3, cond_false]
          by_cases h4 : κ = 4
          · subst h4
            rw [if_pos rfl]
            show (bif Int.ofNat l.length != 1 then _ else _) = _
            by_cases h1 : l.length = 1
            · rw [h1, last (by omega)]
              simp
            · have : (Int.ofNat l.length != 1) = true := by simp; omega
              rw [this, cond_true]
              simp [h1]
          · have e4 : (κ == 4) = false := by simp [h4]
            rw [e4, cond_false, if_neg h4]
    unfold deepT
    by_cases h1 : κ = 1
    · subst h1
      show (bif true then _ else _) = _
      rw [cond_true, go]
      simp
    · have e1 : (κ == 1) = false := by simp [h1]
      rw [e1, cond_false, go]
      by_cases h2 : κ = 2
      · subst h2; simp
      · have e2 : (κ == 2) = false := by simp [h2]
        rw [e2, cond_false, if_neg (show ¬ (κ = 1 ∨ κ = 2) by omega)]
theorem C16 (k : Nat) (hk : 220 ≤ k) (t : T) : Ak k 16 [t.v] [] = some (R (bV (deepT 40 t))) := by
  obtain ⟨k, rfl⟩ : ∃ k', k = k' + 1 := ⟨k - 1, by omega⟩
  refine (call16 k t.k (T.rows t.l)).trans ?_
  have := C45 40 k t (by omega) (by omega)
  unfold T.v at this
  rw [e16_eq]
  show r_oB (Ak k 45 [_, V.one (X.d (D.int IntKind.i64 ((40 : Nat) : Int)))] []) _ _ = _
  rw [this, g_oB]
/-! ### the reference's -/
theorem L46 (k n : Nat) (x κ : Int) (l : List T) (n2 : Nat) (hl : l.length ≤ 4) (hx : x = 41 - (n + 1 : Nat)) (hn : n ≤ 1000)
    (hΓ : ∀ t ∈ l, Ak k 46 [t.v, iV (x + 1)] [] = some (R (bV (deepT n t)))) :
    ∀ (m i : Nat), l.length - i < m → l46_0 m (Ak k) n2 x (Int.ofNat l.length) (Int.ofNat i) κ (T.rows l) = some (R (bV ((l.drop i).all (deepT n)))) := by
  intro m
  induction m with
  | zero => intro i h; omega
  | succ m ih =>
    intro i h
    rw [l46_0_eq]
    by_cases hi : i < l.length
    · have := hΓ (l.getD i default) (getD_mem l i hi)
      unfold T.v at this
      rw [lt_yes i _ hi, cond_true, q46_1_eq, T.rows_len, in_range i _ hi, cond_true, tn, T.rows_at l i hi, getD0, getD1, wrap_in _ (by omega) (by omega), this, g_oB, all_drop _ l i hi]
      cases hd : deepT n (l.getD i default) with
      | false => rfl
      | true =>
        rw [Bool.true_and, ← ih (i + 1) (by omega), Bool.not_true, cond_false, q46_2_eq, wrap_up i (by omega)]
    · rw [lt_no i _ (by omega), cond_false, q46_3_eq, drop_all _ l i (by omega)]
theorem C46 : ∀ (n k : Nat) (t : T), n ≤ 40 → n + 8 ≤ k → Ak k 46 [t.v, iV (41 - n : Int)] [] = some (R (bV (deepT n t)))
  | n, 0, t, _, h => by omega
  | n, k + 1, t, hn, hk => by
    refine (call46 k t.k (T.rows t.l) (41 - n : Int)).trans ?_
    obtain ⟨κ, l⟩ := t
    rw [e46_eq]
    simp only [T.k, T.l, T.rows_len]
    have go : l.length ≤ 4 → (bif decide ((41 - (n : Int)) > 40) then some (R (bV false)) else q46_0 (Ak k) k (41 - n : Int) (Int.ofNat l.length) κ (T.rows l)) = some (R (bV (decide (1 ≤ n) && l.all (deepT (n - 1))))) := by
      intro h4
      cases n with
      | zero => rfl
      | succ n =>
        rw [decide_eq_false (by omega), cond_false, q46_0_eq]
        rw [show l.all (deepT (n + 1 - 1)) = (l.drop 0).all (deepT n) by rw [List.drop_zero]; rfl]
        refine (L46 k n _ κ l k h4 rfl (by omega) (fun t ht => ?_) k 0 (by omega)).trans ?_
        · have e : (41 : Int) - (n + 1 : Nat) + 1 = 41 - n := by omega
          rw [e]
          exact C46 n k t (by omega) (by omega)
        · simp
    unfold R at go
    have deep0 : deepT n (.mk κ l) = (if κ = 1 ∨ κ = 2 then decide (1 ≤ n) && l.isEmpty else if κ = 3 then decide (2 ≤ l.length) && decide (l.length ≤ 4) && (decide (1 ≤ n) && l.all (deepT (n - 1))) else if κ = 4 then decide (l.length = 1) && (decide (1 ≤ n) && l.all (deepT (n - 1))) else false) := by
      cases n with
      | zero => unfold deepT; simp
      | succ n => rw [deepT]; simp
    rw [deep0]
    by_cases h1 : κ = 1
    · subst h1
      cases l with
      | nil =>
        have := go (by simp)
        simp only [List.length_nil, List.all_nil, Bool.and_true] at this
        simpa using this
      | cons a r =>
        have e : ((Int.ofNat (a :: r).length) == 0) = false := by simp; omega
        refine Eq.trans (b := some (R (bV false))) rfl ?_
        simp
    · by_cases h2 : κ = 2
      · subst h2
        cases l with
        | nil =>
          have := go (by simp)
          simp only [List.length_nil, List.all_nil, Bool.and_true] at this
          simpa using this
        | cons a r =>
          have e : ((Int.ofNat (a :: r).length) == 0) = false := by simp; omega
          refine Eq.trans (b := some (R (bV false))) rfl ?_
          simp
      · have e1 : (κ == 1) = false := by simp [h1]
        have e2 : (κ == 2) = false := by simp [h2]
        rw [e1, e2, cond_false, cond_false, if_neg (show ¬ (κ = 1 ∨ κ = 2) by omega)]
        by_cases h3 : κ = 3
        · subst h3
          show (bif decide (Int.ofNat l.length ≥ 2) then _ else _) = _
          rw [if_pos rfl]
          by_cases h2 : 2 ≤ l.length
          · rw [decide_eq_true (by simp only [Int.ofNat_eq_natCast]; omega), cond_true]
            by_cases h4 : l.length ≤ 4
            · rw [decide_eq_true (by simp only [Int.ofNat_eq_natCast]; omega), cond_true, go h4]
              simp [h2, h4]
            · rw [decide_eq_false (by simp only [Int.ofNat_eq_natCast]; omega), cond_false]
              simp [h4]
          · rw [decide_eq_false (by simp only [Int.ofNat_eq_natCast]; omega), cond_false]
            simp [h2]
        · have e3 : (κ == 3) = false := by simp [h3]
          rw [e3, cond_false, if_neg h3]
          by_cases h4 : κ = 4
          · subst h4
            rw [if_pos rfl]
            show (bif !Int.ofNat l.length == 1 then _ else _) = _
            by_cases h1 : l.length = 1
            · have e : (Int.ofNat l.length == 1) = true := by rw [h1]; rfl
              rw [e, Bool.not_true, cond_false, go (by omega)]
              simp [h1]
            · have e : (Int.ofNat l.length == 1) = false := by simp; omega
              rw [e, Bool.not_false, cond_true]
              simp [h1]
          · have e4 : (κ == 4) = false := by simp [h4]
            rw [e4, cond_false, if_neg h4]
termination_by n => n
theorem C17 (k : Nat) (hk : 220 ≤ k) (t : T) : Ak k 17 [t.v] [] = some (R (bV (deepT 40 t))) := by
  obtain ⟨k, rfl⟩ : ∃ k', k = k' + 1 := ⟨k - 1, by omega⟩
  refine (call17 k t.k (T.rows t.l)).trans ?_
  have := C46 40 k t (by omega) (by omega)
  unfold T.v at this
  rw [e17_eq]
  show r_oB (Ak k 46 [_, V.one (X.d (D.int IntKind.i64 ((41 : Int) - ((40 : Nat) : Int))))] []) _ _ = _
  rw [this, g_oB]
end
section
set_option linter.unusedVariables false
set_option linter.unusedSimpArgs false
open Go Go.RowKit
theorem drop_getD {α : Type} [Inhabited α] (l : List α) (i : Nat) (h : i < l.length) : l.drop i = l.getD i default :: l.drop (i + 1) := by
  rw [List.drop_eq_getElem_cons h, List.getD_eq_getElem?_getD, List.getElem?_eq_getElem h]; rfl
theorem T.beqs_drop (l l' : List T) (i : Nat) (h : i < l.length) (h' : i < l'.length) : T.beqs (l.drop i) (l'.drop i) = (T.beq (l.getD i default) (l'.getD i default) && T.beqs (l.drop (i + 1)) (l'.drop (i + 1))) := by
  rw [drop_getD l i h, drop_getD l' i h', T.beqs]
theorem T.beqs_len : ∀ (l l' : List T), l.length ≠ l'.length → T.beqs l l' = false
  | [], [], h => absurd rfl h
  | [], _ :: _, _ => by rw [T.beqs] <;> simp
  | _ :: _, [], _ => by rw [T.beqs] <;> simp
  | a :: r, b :: s, h => by rw [T.beqs, T.beqs_len r s (by simpa using h), Bool.and_false]
theorem T.beq_def (a b : T) : T.beq a b = (decide (a.k = b.k) && T.beqs a.l b.l) := by cases a; cases b; rw [T.beq]; rfl
theorem T.mem_size {t : T} {l : List T} (h : t ∈ l) : t.size ≤ T.sizes l := by
  induction l with
  | nil => cases h
  | cons a r ih =>
    rw [T.sizes]
    rcases List.mem_cons.1 h with rfl | h
    · omega
    · have := ih h; omega
theorem W.mem_size {t : W} {l : List W} (h : t ∈ l) : t.size ≤ W.sizes l := by
  induction l with
  | nil => cases h
  | cons a r ih =>
    rw [W.sizes]
    rcases List.mem_cons.1 h with rfl | h
    · omega
    · have := ih h; omega
theorem ofNat_neb (a b : Nat) : (Int.ofNat a != Int.ofNat b) = !decide (a = b) := by rw [← ofNat_eqb]; rfl
theorem int_neb (a b : Int) : (a != b) = !decide (a = b) := by
  rw [Bool.eq_iff_iff]; simp
theorem int_eqb (a b : Int) : (a == b) = decide (a = b) := by
  rw [Bool.eq_iff_iff]; simp
theorem L47 (k : Nat) (l l' : List T) (n2 : Nat) (hll : l.length = l'.length) (hl : l.length ≤ 1000000) (hΓ : ∀ a ∈ l, ∀ b : T, Ak k 18 [a.v, b.v] [] = some (R (bV (T.beq a b)))) :
    ∀ (m i : Nat), l.length - i < m → l47_0 m (Ak k) n2 (T.rows l') (T.rows l) (Int.ofNat l.length) (Int.ofNat i) = some (R (bV (T.beqs (l.drop i) (l'.drop i)))) := by
  intro m
  induction m with
  | zero => intro i h; omega
  | succ m ih =>
    intro i h
    rw [l47_0_eq]
    by_cases hi : i < l.length
    · have := hΓ (l.getD i default) (getD_mem l i hi) (l'.getD i default)
      unfold T.v at this
      rw [lt_yes i _ hi, cond_true, q47_1_eq, T.rows_len, T.rows_len, in_range i _ hi, cond_true, in_range i _ (by omega), cond_true, tn, T.rows_at l i hi, T.rows_at l' i (by omega)]
      simp only [getD0, getD1]
      rw [this, g_oB, T.beqs_drop l l' i hi (by omega)]
      cases T.beq (l.getD i default) (l'.getD i default) with
      | false => rfl
      | true => rw [Bool.true_and, ← ih (i + 1) (by omega), Bool.not_true, cond_false, q47_2_eq, wrap_up i (by omega)]
    · rw [lt_no i _ (by omega), cond_false, q47_3_eq, List.drop_eq_nil_of_le (by omega), List.drop_eq_nil_of_le (by omega), T.beqs]
theorem C18 : ∀ (k : Nat) (a b : T), a.size ≤ 1000000 → 2 * a.size + 2 ≤ k → Ak k 18 [a.v, b.v] [] = some (R (bV (T.beq a b)))
  | 0, a, b, _, h => by omega
  | 1, a, b, _, h => by have := a.size_pos; omega
  | k + 2, a, b, hs, hk => by
    have hsz := a.size_eq
    have hlen := T.sizes_len a.l
    refine (call18 (k + 1) a.k (T.rows a.l) b.k (T.rows b.l)).trans ?_
    rw [e18_eq, T.beq_def, int_eqb]
    by_cases h1 : a.k = b.k
    · rw [decide_eq_true h1, cond_true, Bool.true_and]
      have h47 : Ak (k + 1) 47 [V.one (X.d (D.list 2 (T.rows a.l))), V.one (X.d (D.list 2 (T.rows b.l))), V.one (X.fn 18 [])] [] = some (R (bV (T.beqs a.l b.l))) := by
        refine (call47 k (T.rows a.l) (T.rows b.l)).trans ?_
        rw [e47_eq, T.rows_len, T.rows_len, ofNat_neb]
        by_cases h2 : a.l.length = b.l.length
        · rw [decide_eq_true h2, Bool.not_true, cond_false, q47_0_eq, T.rows_len]
          exact L47 k a.l b.l k h2 (by omega) (fun x hx y => C18 k x y (by have := T.mem_size hx; omega) (by have := T.mem_size hx; omega)) k 0 (by omega)
        · rw [decide_eq_false h2, Bool.not_false, cond_true, T.beqs_len _ _ h2]
      rw [h47, g_oB]
    · rw [decide_eq_false h1, cond_false, Bool.false_and]
/-- The reference's. -/
theorem L19 (k : Nat) (x y : Int) (l l' : List T) (n2 : Nat) (hll : l.length = l'.length) (hl : l.length ≤ 1000000) (hΓ : ∀ a ∈ l, ∀ b : T, Ak k 19 [a.v, b.v] [] = some (R (bV (T.beq a b)))) :
    ∀ (m i : Nat), l.length - i < m → l19_0 m (Ak k) n2 (Int.ofNat i) x (T.rows l) y (T.rows l') = some (R (bV (T.beqs (l.drop i) (l'.drop i)))) := by
  intro m
  induction m with
  | zero => intro i h; omega
  | succ m ih =>
    intro i h
    rw [l19_0_eq, T.rows_len]
    by_cases hi : i < l.length
    · have := hΓ (l.getD i default) (getD_mem l i hi) (l'.getD i default)
      unfold T.v at this
      rw [lt_yes i _ hi, cond_true, q19_1_eq, T.rows_len, T.rows_len, in_range i _ hi, cond_true, in_range i _ (by omega), cond_true, tn, T.rows_at l i hi, T.rows_at l' i (by omega)]
      simp only [getD0, getD1]
      rw [this, g_oB, T.beqs_drop l l' i hi (by omega)]
      cases T.beq (l.getD i default) (l'.getD i default) with
      | false => rfl
      | true => rw [Bool.true_and, ← ih (i + 1) (by omega), Bool.not_true, cond_false, q19_2_eq, wrap_up i (by omega)]
    · rw [lt_no i _ (by omega), cond_false, q19_3_eq, List.drop_eq_nil_of_le (by omega), List.drop_eq_nil_of_le (by omega), T.beqs]
theorem C19 : ∀ (k : Nat) (a b : T), a.size ≤ 1000000 → a.size + 2 ≤ k → Ak k 19 [a.v, b.v] [] = some (R (bV (T.beq a b)))
  | 0, a, b, _, h => by omega
  | k + 1, a, b, hs, hk => by
    have hsz := a.size_eq
    have hlen := T.sizes_len a.l
    refine (call19 k a.k (T.rows a.l) b.k (T.rows b.l)).trans ?_
    rw [e19_eq, T.beq_def, int_neb, T.rows_len, T.rows_len, ofNat_neb]
    by_cases h1 : a.k = b.k
    · rw [decide_eq_true h1, Bool.not_true, cond_false, Bool.true_and]
      by_cases h2 : a.l.length = b.l.length
      · rw [decide_eq_true h2, Bool.not_true, cond_false, q19_0_eq]
        exact L19 k a.k b.k a.l b.l k h2 (by omega) (fun x hx y => C19 k x y (by have := T.mem_size hx; omega) (by have := T.mem_size hx; omega)) k 0 (by omega)
      · rw [decide_eq_false h2, Bool.not_false, cond_true, T.beqs_len _ _ h2]
    · rw [decide_eq_false h1, Bool.not_false, cond_true, Bool.false_and]
/-- The law's. -/
theorem L22 (k : Nat) (x y : Int) (l l' : List T) (n2 : Nat) (hll : l.length = l'.length) (hl : l.length ≤ 1000000) (hΓ : ∀ a ∈ l, ∀ b : T, Ak k 22 [a.v, b.v] [] = some (R (bV (T.beq a b)))) :
    ∀ (m i : Nat), l.length - i < m → l22_0 m (Ak k) n2 (Int.ofNat i) x (T.rows l) y (T.rows l') = some (R (bV (T.beqs (l.drop i) (l'.drop i)))) := by
  intro m
  induction m with
  | zero => intro i h; omega
  | succ m ih =>
    intro i h
    rw [l22_0_eq, T.rows_len]
    by_cases hi : i < l.length
    · have := hΓ (l.getD i default) (getD_mem l i hi) (l'.getD i default)
      unfold T.v at this
      rw [lt_yes i _ hi, cond_true, q22_1_eq, T.rows_len, T.rows_len, in_range i _ hi, cond_true, in_range i _ (by omega), cond_true, tn, T.rows_at l i hi, T.rows_at l' i (by omega)]
      simp only [getD0, getD1]
      rw [this, g_oB, T.beqs_drop l l' i hi (by omega)]
      cases T.beq (l.getD i default) (l'.getD i default) with
      | false => rfl
      | true => rw [Bool.true_and, ← ih (i + 1) (by omega), Bool.not_true, cond_false, q22_2_eq, wrap_up i (by omega)]
    · rw [lt_no i _ (by omega), cond_false, q22_3_eq, List.drop_eq_nil_of_le (by omega), List.drop_eq_nil_of_le (by omega), T.beqs]
theorem C22 : ∀ (k : Nat) (a b : T), a.size ≤ 1000000 → a.size + 2 ≤ k → Ak k 22 [a.v, b.v] [] = some (R (bV (T.beq a b)))
  | 0, a, b, _, h => by omega
  | k + 1, a, b, hs, hk => by
    have hsz := a.size_eq
    have hlen := T.sizes_len a.l
    refine (call22 k a.k (T.rows a.l) b.k (T.rows b.l)).trans ?_
    rw [e22_eq, T.beq_def, int_neb, T.rows_len, T.rows_len, ofNat_neb]
    by_cases h1 : a.k = b.k
    · rw [decide_eq_true h1, Bool.not_true, cond_false, Bool.true_and]
      by_cases h2 : a.l.length = b.l.length
      · rw [decide_eq_true h2, Bool.not_true, cond_false, q22_0_eq]
        exact L22 k a.k b.k a.l b.l k h2 (by omega) (fun x hx y => C22 k x y (by have := T.mem_size hx; omega) (by have := T.mem_size hx; omega)) k 0 (by omega)
      · rw [decide_eq_false h2, Bool.not_false, cond_true, T.beqs_len _ _ h2]
    · rw [decide_eq_false h1, Bool.not_false, cond_true, Bool.false_and]

/-! ### texts -/
def ba (l : Bs) : ByteArray := ⟨l.toArray⟩
theorem ba_list (l : Bs) : (ba l).data.toList = l := rfl
theorem ba_of (s : ByteArray) : s = ba s.data.toList := by cases s; rfl
theorem ba_size (l : Bs) : (ba l).size = l.length := by unfold ba ByteArray.size; simp
theorem ba_app (a b : Bs) : ba a ++ ba b = ba (a ++ b) := by
  apply ByteArray.ext
  rw [ByteArray.data_append]
  unfold ba
  simp
def strRows (l : List Bs) : List (List D) := l.map fun s => [D.str (ba s)]
theorem strRows_len (l : List Bs) : (strRows l).length = l.length := by unfold strRows; simp
theorem texts_strRows : ∀ l : List Bs, textsOf (strRows l) = some (l.map ba)
  | [] => rfl
  | s :: r => by
    have e : strRows (s :: r) = [D.str (ba s)] :: strRows r := rfl
    rw [e, textsOf, texts_strRows r]
    rfl
theorem joinB_ba (l : List Bs) (sep : Bs) : joinB (l.map ba) (ba sep) = ba (Lib.join l sep) := by
  unfold joinB
  rw [List.map_map]
  have : (fun x : ByteArray => x.data.toList) ∘ ba = id := by funext x; rfl
  rw [this, List.map_id]; rfl
theorem C48 (k : Nat) (l : List Bs) (sep : Bs) (h1 : l.length ≤ 1000000000) (h2 : (Lib.join l sep).length ≤ 1000000000) :
    Ak (k + 1) 48 [V.one (X.d (D.list 1 (strRows l))), sV (ba sep)] [] = some (R (sV (ba (Lib.join l sep)))) := by
  have e : Ak (k + 1) 48 [V.one (X.d (D.list 1 (strRows l))), sV (ba sep)] [] = joinC (V.one (X.d (D.list 1 (strRows l)))) (ba sep) := rfl
  have e2 : joinC (V.one (X.d (D.list 1 (strRows l)))) (ba sep) = (textsOf (strRows l)).bind fun l' => cond (Nat.ble l'.length 140737488355328 && Nat.ble (Lib.join (l'.map (·.data.toList)) (ba sep).data.toList).length 140737488355328) (some (R (dv (.str (joinB l' (ba sep)))))) none := rfl
  rw [e, e2, texts_strRows, Option.bind_some, joinB_ba]
  have e3 : (l.map ba).map (fun x : ByteArray => x.data.toList) = l := by
    rw [List.map_map]
    have : (fun x : ByteArray => x.data.toList) ∘ ba = id := by funext x; rfl
    rw [this, List.map_id]
  rw [e3, ba_list, List.length_map]
  rw [show Nat.ble l.length 140737488355328 = true from Nat.ble_eq_true_of_le (by omega), show Nat.ble (Lib.join l sep).length 140737488355328 = true from Nat.ble_eq_true_of_le (by omega)]
  rfl
theorem C48n (k : Nat) (sep : Bs) : Ak (k + 1) 48 [V.one (X.nilL 1), sV (ba sep)] [] = some (R (sV (ba []))) := rfl
theorem textT_len : ∀ t : T, (textT t).length + 2 ≤ 6 * t.size := by
  suffices ∀ n, ∀ t : T, t.size ≤ n → (textT t).length + 2 ≤ 6 * t.size from fun t => this _ t (Nat.le_refl _)
  intro n
  induction n with
  | zero => intro t h; have := t.size_pos; omega
  | succ n ih =>
    intro t h
    obtain ⟨κ, l⟩ := t
    have hsz : (T.mk κ l).size = 1 + T.sizes l := by rw [T.size]
    have join : ∀ l' : List T, T.sizes l' ≤ n → (Lib.join (textTs l') sepB).length ≤ 6 * T.sizes l' := by
      intro l'
      induction l' with
      | nil => intro _; rw [textTs, T.sizes, Lib.join_nil]; simp
      | cons a r ih2 =>
        intro h2
        rw [T.sizes] at h2
        have h3 := ih a (by omega)
        cases r with
        | nil => rw [textTs, textTs, Lib.join_one, T.sizes, T.sizes]; omega
        | cons b r =>
          have h4 := ih2 (by omega)
          rw [textTs, textTs, join_two, List.length_append, List.length_append, ← textTs, T.sizes]
          have : sepB.length = 2 := rfl
          omega
    have h5 := join l (by omega)
    unfold textT
    split
    · simp only [List.length_cons, List.length_nil]; omega
    · split
      · simp only [List.length_cons, List.length_nil]; omega
      · split
        · simp only [List.length_append, List.length_cons, List.length_nil]; omega
        · split
          · simp only [List.length_append, List.length_cons, List.length_nil]; omega
          · simp only [List.length_cons, List.length_nil]; omega
theorem join_textTs_len : ∀ l : List T, (Lib.join (textTs l) sepB).length ≤ 6 * T.sizes l
  | [] => by rw [textTs, T.sizes, Lib.join_nil]; simp
  | [a] => by rw [textTs, textTs, Lib.join_one, T.sizes, T.sizes]; have := textT_len a; omega
  | a :: b :: r => by
    rw [textTs, textTs, join_two, List.length_append, List.length_append, ← textTs, T.sizes]
    have := join_textTs_len (b :: r)
    have := textT_len a
    have : sepB.length = 2 := rfl
    omega
theorem ble_t {a b : Nat} (h : a ≤ b) : Nat.ble a b = true := Nat.ble_eq_true_of_le h
/-- What stands behind the loop. -/
theorem fin20 (k : Nat) (Γ : SemL) (κ : Int) (x : Bs) (hx : x.length ≤ 1000000000) :
    (bif κ == 1 then some (Out.mk true (V.one (X.d (D.str (ByteArray.mk #[98, 111, 111, 108])))) D.junk [] 0) else bif κ == 2 then some (Out.mk true (V.one (X.d (D.str (ByteArray.mk #[105, 110, 116])))) D.junk [] 0)
      else bif κ == 3 then bif Nat.ble (1 + ByteArray.size (ba x)) 9223372036854775807 then bif Nat.ble (ByteArray.size (ByteArray.mk #[40] ++ ba x) + 1) 9223372036854775807 then some (Out.mk true (V.one (X.d (D.str (ByteArray.mk #[40] ++ ba x ++ ByteArray.mk #[41])))) D.junk [] 0) else none else none
      else bif κ == 4 then bif Nat.ble (1 + ByteArray.size (ba x)) 9223372036854775807 then bif Nat.ble (ByteArray.size (ByteArray.mk #[91] ++ ba x) + 1) 9223372036854775807 then some (Out.mk true (V.one (X.d (D.str (ByteArray.mk #[91] ++ ba x ++ ByteArray.mk #[93])))) D.junk [] 0) else none else none else q20_3 Γ k) =
    some (R (sV (ba (if κ = 1 then [98, 111, 111, 108] else if κ = 2 then [105, 110, 116] else if κ = 3 then [40] ++ x ++ [41] else if κ = 4 then [91] ++ x ++ [93] else [63])))) := by
  have e40 : (ByteArray.mk #[40]) = ba [40] := rfl
  have e41 : (ByteArray.mk #[41]) = ba [41] := rfl
  have e91 : (ByteArray.mk #[91]) = ba [91] := rfl
  have e93 : (ByteArray.mk #[93]) = ba [93] := rfl
  rw [e40, e41, e91, e93, ba_app, ba_app, ba_app, ba_app, ba_size, ba_size, ba_size, ble_t (by omega), ble_t (by simp; omega), ble_t (by simp; omega), q20_3_eq]
  simp only [int_eqb]
  by_cases h1 : κ = 1
  · subst h1; rfl
  · by_cases h2 : κ = 2
    · subst h2; rfl
    · by_cases h3 : κ = 3
      · subst h3; rfl
      · by_cases h4 : κ = 4
        · subst h4; rfl
        · rw [decide_eq_false h1, decide_eq_false h2, decide_eq_false h3, decide_eq_false h4, if_neg h1, if_neg h2, if_neg h3, if_neg h4]; rfl
theorem L20 (k : Nat) (κ : Int) (l : List T) (q : List (List D)) (n2 : Nat) (hl : T.sizes l ≤ 1000000) (hk : 1 ≤ k) (hΓ : ∀ t ∈ l, Ak k 20 [t.v] [] = some (R (sV (ba (textT t))))) :
    ∀ (m i : Nat) (acc : List Bs), acc ++ textTs (l.drop i) = textTs l → acc.length ≤ l.length → l.length - i < m → l20_0_v1 m (Ak k) n2 (strRows acc) (T.rows l) (Int.ofNat l.length) (Int.ofNat i) κ q = some (R (sV (ba (textT (.mk κ l))))) := by
  intro m
  have hlen := T.sizes_len l
  induction m with
  | zero => intro i acc _ _ h; omega
  | succ m ih =>
    intro i acc ha hal h
    rw [l20_0_v1_eq]
    by_cases hi : i < l.length
    · have := hΓ (l.getD i default) (getD_mem l i hi)
      unfold T.v at this
      rw [lt_yes i _ hi, cond_true, q20_0_v1_eq, T.rows_len, in_range i _ hi, cond_true, tn, T.rows_at l i hi, getD0, getD1, this, g_oS, strRows_len, ble_t (by simp only [List.length_cons, List.length_nil]; omega)]
      have e : strRows acc ++ [[D.str (ba (textT (l.getD i default)))]] = strRows (acc ++ [textT (l.getD i default)]) := by unfold strRows; simp
      rw [e]
      simp only [Bool.and_self, cond_true]
      rw [q20_1_eq, wrap_up i (by omega)]
      have ha2 : (acc ++ [textT (l.getD i default)]) ++ textTs (l.drop (i + 1)) = textTs l := by
        rw [← ha, drop_getD l i hi, textTs]; simp
      refine ih (i + 1) _ ha2 ?_ (by omega)
      have := congrArg List.length ha2
      rw [List.length_append, textTs_map, textTs_map, List.length_map, List.length_map, List.length_drop] at this
      omega
    · rw [lt_no i _ (by omega), cond_false, q20_2_v1_eq]
      have hacc : acc = textTs l := by rw [← ha, List.drop_eq_nil_of_le (by omega), textTs]; simp
      subst hacc
      have hj := join_textTs_len l
      obtain ⟨k, rfl⟩ : ∃ k', k = k' + 1 := ⟨k - 1, by omega⟩
      have hc := C48 k (textTs l) sepB (by rw [textTs_map, List.length_map]; omega) (by omega)
      show r_oS (Ak (k + 1) 48 [V.one (X.d (D.list 1 (strRows (textTs l)))), V.one (X.d (D.str (ba sepB)))] []) [] _ = _
      rw [hc, g_oS, fin20 _ _ _ _ (by omega), textT]
theorem strRows_one (s : Bs) : [[D.str (ba s)]] = strRows [s] := rfl
theorem C20 : ∀ (k : Nat) (t : T), t.size ≤ 1000000 → t.size + 3 ≤ k → Ak k 20 [t.v] [] = some (R (sV (ba (textT t))))
  | 0, t, _, h => by omega
  | k + 1, t, hs, hk => by
    have hsz := t.size_eq
    have hlen := T.sizes_len t.l
    obtain ⟨κ, l⟩ := t
    simp only [T.l, T.k] at *
    refine (call20 k κ (T.rows l)).trans ?_
    rw [e20_eq, T.rows_len]
    have hΓ : ∀ t ∈ l, Ak k 20 [t.v] [] = some (R (sV (ba (textT t)))) := fun x hx => C20 k x (by have := T.mem_size hx; omega) (by have := T.mem_size hx; omega)
    obtain ⟨k, rfl⟩ : ∃ k', k = k' + 1 := ⟨k - 1, by omega⟩
    rw [l20_0_eq]
    by_cases hi : 0 < l.length
    · have := hΓ (l.getD 0 default) (getD_mem l 0 hi)
      unfold T.v at this
      rw [show (0 : Int) = Int.ofNat 0 from rfl, lt_yes 0 _ hi, cond_true, q20_0_eq, T.rows_len, in_range 0 _ hi, cond_true, tn, T.rows_at l 0 hi, getD0, getD1, this, g_oS, q20_1_eq, wrap_up 0 (by omega), strRows_one]
      exact L20 (k + 1) κ l (T.rows l) (k + 1) (by omega) (by omega) hΓ k 1 [textT (l.getD 0 default)] (by rw [← List.drop_zero (l := l), drop_getD l 0 hi, textTs]; simp) (by simp; omega) (by omega)
    · rw [show (0 : Int) = Int.ofNat 0 from rfl, lt_no 0 _ (by omega), cond_false, q20_2_eq]
      have hl0 : l = [] := List.eq_nil_of_length_eq_zero (by omega)
      subst hl0
      show r_oS (Ak (k + 1) 48 [V.one (X.nilL 1), sV (ba sepB)] []) [] _ = _
      rw [C48n, g_oS, fin20 _ _ _ _ (by simp), textT, textTs, Lib.join_nil]
end
section
set_option linter.unusedVariables false
set_option linter.unusedSimpArgs false
open Go Go.RowKit
theorem ba_extract (s : Bs) (i j : Nat) : (ba s).extract i j = ba ((s.take j).drop i) := by
  apply ByteArray.ext
  rw [ByteArray.data_extract]
  unfold ba
  apply Array.ext'
  simp [List.extract_eq_take_drop, List.drop_take]
theorem beqL_eq : ∀ a b : List UInt8, beqL a b = decide (a = b)
  | [], [] => rfl
  | [], b :: s => by rw [beqL] <;> simp
  | a :: r, [] => by rw [beqL] <;> simp
  | a :: r, b :: s => by
    rw [beqL, beqL_eq r s]
    by_cases h : a = b
    · subst h
      rw [show Nat.beq a.toNat a.toNat = true from Nat.beq_refl _, cond_true]
      simp
    · have : Nat.beq a.toNat b.toNat = false := by
        cases hq : Nat.beq a.toNat b.toNat
        · rfl
        · exact absurd (UInt8.toNat_inj.1 (Nat.eq_of_beq_eq_true hq)) h
      rw [this, cond_false]
      simp [h]
theorem isSome_cutP (p s : Bs) : (cutP p s).isSome = decide (p.length ≤ s.length ∧ s.take p.length = p) := by
  unfold cutP
  rw [Bool.eq_iff_iff, decide_eq_true_iff]
  constructor
  · intro h
    split at h
    · rename_i hp
      obtain ⟨q, rfl⟩ := List.isPrefixOf_iff_prefix.1 hp
      simp
    · cases h
  · rintro ⟨h1, h2⟩
    rw [if_pos]
    · rfl
    · rw [List.isPrefixOf_iff_prefix]
      exact ⟨s.drop p.length, by conv => lhs; lhs; rw [← h2]
                                 exact List.take_append_drop _ _⟩
theorem cutP_val {p s r : Bs} (h : cutP p s = some r) : r = s.drop p.length := by
  rw [cutP_some h]; simp
theorem C91 (k : Nat) (s p : Bs) : Ak (k + 1) 91 [sV (ba s), sV (ba p)] [] = some (R (bV (cutP p s).isSome)) := by
  refine (call91 k (ba s) (ba p)).trans ?_
  rw [e91_eq, ba_size, ba_size, isSome_cutP]
  by_cases h : p.length ≤ s.length
  · rw [decide_eq_true (by simp only [Int.ofNat_eq_natCast]; omega), cond_true]
    have e : (decide (0 ≤ Int.ofNat p.length) && true && true && decide (0 ≤ Int.ofNat p.length)) = true := by simp
    rw [e, cond_true, tn, ba_extract, ba_list, ba_list, beqL_eq, List.drop_zero]
    refine retP ?_
    exact ⟨fun e => ⟨h, e⟩, fun e => e.2⟩
  · rw [decide_eq_false (by simp only [Int.ofNat_eq_natCast]; omega), cond_false, decide_eq_false (fun e => h e.1)]
def cutV (p s : Bs) : V := .tup [sV (ba ((cutP p s).getD s)), bV (cutP p s).isSome]
theorem C65 (k : Nat) (s p : Bs) : Ak (k + 3) 65 [sV (ba s), sV (ba p)] [] = some (R (cutV p s)) := by
  have h83 : Ak (k + 2) 83 [sV (ba s), sV (ba p)] [] = some (R (cutV p s)) := by
    refine (call83 (k + 1) (ba s) (ba p)).trans ?_
    rw [e83_eq, C91, g_oB]
    unfold cutV
    cases h : cutP p s with
    | none => rfl
    | some r =>
      have e := cutP_some h
      rw [Option.isSome_some, Bool.not_true, cond_false, q83_0_eq, ba_size, ba_size, tn, tn, ba_extract, List.take_of_length_le (Nat.le_refl _), ← cutP_val h,
        decide_eq_true (by simp), decide_eq_true (by simp), decide_eq_true (by simp), decide_eq_true (by rw [e]; simp only [List.length_append, Int.ofNat_eq_natCast]; omega)]
      rfl
  refine (call65 (k + 2) (ba s) (ba p)).trans ?_
  rw [e65_eq, h83]
  unfold cutV
  rw [g_t2oSoB]
/-! ### reading a type -/
def okV (x : Option (T × Bs)) : V := match x with
  | some (t, r) => .tup [t.v, sV (ba r), bV true]
  | none => .tup [T.v (.mk 0 []), sV (ba []), bV false]
theorem readT_le : ∀ {n : Nat} {s : Bs} {t : T} {r : Bs}, readT n s = some (t, r) → r.length ≤ s.length := by
  intro n s t r h
  rw [readT_inv n s t r h]; simp
theorem readT_size : ∀ {n : Nat} {s : Bs} {t : T} {r : Bs}, readT n s = some (t, r) → t.size ≤ (textT t).length := by
  intro n
  induction n with
  | zero => intro s t r h; cases h
  | succ n ih =>
    intro s t r h
    have lp : ∀ (fin : Bs) (f : Nat) (s : Bs) (acc l : List T) (r : Bs), loopL (readT n) fin f s acc = some (l, r) → (∀ t ∈ acc, t.size ≤ (textT t).length) → ∀ t ∈ l, t.size ≤ (textT t).length := by
      intro fin f
      induction f with
      | zero => intro s acc l r h; cases h
      | succ f ih2 =>
        intro s acc l r h ha
        unfold loopL at h
        split at h
        · cases h
        · rename_i t r1 ht
          have ha2 : ∀ x ∈ acc ++ [t], x.size ≤ (textT x).length := fun x hx => by
            rcases List.mem_append.1 hx with hx | hx
            · exact ha x hx
            · rw [List.mem_singleton] at hx; subst hx; exact ih ht
          split at h
          · cases h; exact ha2
          · split at h
            · cases h
            · exact ih2 _ _ _ _ h ha2
    have sum : ∀ l : List T, (∀ t ∈ l, t.size ≤ (textT t).length) → T.sizes l ≤ (Lib.join (textTs l) sepB).length := by
      intro l
      induction l with
      | nil => intro _; rw [T.sizes]; omega
      | cons a l ih2 =>
        intro hl
        have h1 := hl a (by simp)
        have h2 := ih2 (fun t ht => hl t (by simp [ht]))
        cases l with
        | nil => rw [textTs, textTs, Lib.join_one, T.sizes, T.sizes]; omega
        | cons b l => rw [textTs, textTs, join_two, List.length_append, List.length_append, ← textTs, T.sizes]; omega
    unfold readT at h
    split at h
    · cases h; rw [textT, T.size, T.sizes]; simp
    · split at h
      · cases h; rw [textT, T.size, T.sizes]; simp
      · split at h
        · rw [Option.map_eq_some_iff] at h
          obtain ⟨⟨l, q⟩, hl, h⟩ := h
          cases h
          have := sum l (lp _ _ _ _ _ _ hl (fun t ht => by cases ht))
          rw [textT, T.size]
          simp only [List.length_append, List.length_cons, List.length_nil, show ¬ ((3 : Int) = 1) by decide, show ¬ ((3 : Int) = 2) by decide, if_false, if_true]
          omega
        · split at h
          · rw [Option.map_eq_some_iff] at h
            obtain ⟨⟨l, q⟩, hl, h⟩ := h
            cases h
            have := sum l (lp _ _ _ _ _ _ hl (fun t ht => by cases ht))
            rw [textT, T.size]
            simp only [List.length_append, List.length_cons, List.length_nil, show ¬ ((4 : Int) = 1) by decide, show ¬ ((4 : Int) = 2) by decide, show ¬ ((4 : Int) = 3) by decide, if_false, if_true]
            omega
          · cases h
theorem L43 (k n : Nat) (hn : n ≤ 1000) (fin : Bs) (κ : Int) (n2 : Nat) (N : Nat) (hN : N ≤ 1000000)
    (hΓ : ∀ s : Bs, s.length ≤ N → Ak (k + 3) 43 [sV (ba s), iV (n : Nat)] [] = some (R (okV (readT n s)))) :
    ∀ (m f : Nat) (r : Bs) (acc : List T), r.length < m → r.length < f → r.length ≤ N → acc.length + r.length ≤ N →
      l43_0_v1 m (Ak (k + 3)) n2 (n + 1 : Nat) (ba fin) (ba r) true 0 κ (T.rows acc) = some (R (okV ((loopL (readT n) fin f r acc).map fun x => (T.mk κ x.1, x.2)))) := by
  intro m
  induction m with
  | zero => intro f r acc h; omega
  | succ m ih =>
    intro f r acc hm hf hr hacc
    obtain ⟨f, rfl⟩ : ∃ f', f = f' + 1 := ⟨f - 1, by omega⟩
    have h1 := hΓ r hr
    rw [l43_0_v1_eq, cond_true, q43_4_v1_eq, wrap_in _ (by omega) (by omega), show ((n + 1 : Nat) : Int) - 1 = (n : Int) by omega, h1]
    unfold loopL okV
    cases hread : readT n r with
    | none =>
      simp only
      rw [g_t3a2IL2oSoB, Bool.not_false, cond_true, q43_7_eq]
      rfl
    | some p =>
      obtain ⟨t, r1⟩ := p
      have hle := readT_le hread
      simp only
      rw [g_t3a2IL2oSoB, Bool.not_true, cond_false, q43_5_v1_eq, T.rows_len, ble_t (by simp only [List.length_cons, List.length_nil]; omega)]
      simp only [Bool.and_self, cond_true]
      rw [C65, cutV, g_t2oSoB, ← T.rows_one, ← T.rows_app]
      cases hc : cutP fin r1 with
      | some r2 => rfl
      | none =>
        simp only [Option.isSome_none, cond_false]
        rw [q43_6_eq]
        show r_t2oSoB (Ak (k + 3) 65 [sV (ba r1), sV (ba sepB)] []) [] _ = _
        rw [C65, cutV, g_t2oSoB]
        cases hs : cutP sepB r1 with
        | none =>
          simp only [Option.isSome_none, Option.getD_none]
          obtain ⟨m, rfl⟩ : ∃ m', m = m' + 1 := ⟨m - 1, by
            have := readT_size hread
            have h2 := t.size_pos
            have h3 := congrArg List.length (readT_inv _ _ _ _ hread)
            rw [List.length_append] at h3
            omega⟩
          rw [l43_0_v1_eq, cond_false, q43_7_eq]
          rfl
        | some r3 =>
          simp only [Option.isSome_some, Option.getD_some]
          have h3 := congrArg List.length (cutP_some hs)
          rw [List.length_append, show sepB.length = 2 from rfl] at h3
          rw [ih f r3 (acc ++ [t]) (by omega) (by omega) (by omega) (by rw [List.length_append, List.length_cons, List.length_nil]; omega)]
          rfl
theorem C43 : ∀ (n k : Nat) (s : Bs) (N : Nat), n ≤ 1000 → N ≤ 1000000 → s.length ≤ N → N + n + 10 ≤ k → Ak k 43 [sV (ba s), iV (n : Nat)] [] = some (R (okV (readT n s)))
  | 0, 0, s, N, _, _, _, h => by omega
  | 0, k + 1, s, N, _, _, _, _ => by
    refine (call43 k (ba s) 0).trans ?_
    rw [e43_eq]
    rfl
  | n + 1, 0, s, N, _, _, _, h => by omega
  | n + 1, k + 1, s, N, hn, hN, hs, hk => by
    obtain ⟨k, rfl⟩ : ∃ k', k = k' + 3 := ⟨k - 3, by omega⟩
    have hΓ : ∀ s : Bs, s.length ≤ N → Ak (k + 3) 43 [sV (ba s), iV (n : Nat)] [] = some (R (okV (readT n s))) := fun s hs => C43 n (k + 3) s N (by omega) hN hs (by omega)
    refine (call43 (k + 3) (ba s) (n + 1 : Nat)).trans ?_
    rw [e43_eq, decide_eq_false (by omega), cond_false, q43_0_eq]
    show r_t2oSoB (Ak (k + 3) 65 [sV (ba s), sV (ba [98, 111, 111, 108])] []) [] _ = _
    rw [C65, cutV, g_t2oSoB]
    unfold readT
    cases h1 : cutP [98, 111, 111, 108] s with
    | some r => rfl
    | none =>
      simp only [Option.isSome_none, cond_false]
      rw [q43_1_eq]
      show r_t2oSoB (Ak (k + 3) 65 [sV (ba s), sV (ba [105, 110, 116])] []) [] _ = _
      rw [C65, cutV, g_t2oSoB]
      cases h2 : cutP [105, 110, 116] s with
      | some r => rfl
      | none =>
        simp only [Option.isSome_none, cond_false]
        rw [q43_2_eq]
        show r_t2oSoB (Ak (k + 3) 65 [sV (ba s), sV (ba [40])] []) [] _ = _
        rw [C65, cutV, g_t2oSoB]
        have go : ∀ (fin : Bs) (κ : Int) (r : Bs), r.length + 1 ≤ N → q43_3 (Ak (k + 3)) (k + 3) (n + 1 : Nat) κ (ba fin) (ba r) true 0 = some (R (okV ((loopL (readT n) fin (r.length + 1) r []).map fun x => (T.mk κ x.1, x.2)))) := by
          intro fin κ r hr
          rw [q43_3_eq, l43_0_eq, cond_true, q43_4_eq, wrap_in _ (by omega) (by omega), show ((n + 1 : Nat) : Int) - 1 = (n : Int) by omega, hΓ r (by omega)]
          unfold loopL okV
          cases hread : readT n r with
          | none =>
            simp only
            rw [g_t3a2IL2oSoB, Bool.not_false, cond_true, q43_7_eq]
            rfl
          | some p =>
            obtain ⟨t, r1⟩ := p
            have hle := readT_le hread
            simp only
            rw [g_t3a2IL2oSoB, Bool.not_true, cond_false, q43_5_eq, C65, cutV, g_t2oSoB, ← T.rows_one]
            cases hc : cutP fin r1 with
            | some r2 => rfl
            | none =>
              simp only [Option.isSome_none, cond_false]
              rw [q43_6_eq]
              show r_t2oSoB (Ak (k + 3) 65 [sV (ba r1), sV (ba sepB)] []) [] _ = _
              rw [C65, cutV, g_t2oSoB]
              cases hs : cutP sepB r1 with
              | none =>
                simp only [Option.isSome_none, Option.getD_none]
                rw [l43_0_v1_eq, cond_false, q43_7_eq]
                rfl
              | some r3 =>
                simp only [Option.isSome_some, Option.getD_some]
                have h3 := congrArg List.length (cutP_some hs)
                rw [List.length_append, show sepB.length = 2 from rfl] at h3
                rw [L43 k n (by omega) fin κ (k + 3) N hN hΓ (k + 2) r.length r3 [t] (by omega) (by omega) (by omega) (by simp only [List.length_cons, List.length_nil]; omega)]
                rfl
        cases h3 : cutP [40] s with
        | some r =>
          simp only [Option.isSome_some, Option.getD_some, Bool.not_true, cond_false]
          have h4 := congrArg List.length (cutP_some h3)
          rw [List.length_append, List.length_cons, List.length_nil] at h4
          exact go [41] 3 r (by omega)
        | none =>
          simp only [Option.isSome_none, Option.getD_none, Bool.not_false, cond_true]
          show r_t2oSoB (Ak (k + 3) 65 [sV (ba s), sV (ba [91])] []) [] _ = _
          rw [C65, cutV, g_t2oSoB]
          cases h5 : cutP [91] s with
          | some r =>
            simp only [Option.isSome_some, Option.getD_some]
            have h4 := congrArg List.length (cutP_some h5)
            rw [List.length_append, List.length_cons, List.length_nil] at h4
            exact go [93] 4 r (by omega)
          | none =>
            simp only [Option.isSome_none, Option.getD_none]
            rw [q43_3_eq, l43_0_eq, cond_false, q43_7_eq]
            rfl
def parV (x : Option T) : V := match x with
  | some t => .tup [t.v, iV 0]
  | none => .tup [T.v (.mk 0 []), iV 33]
theorem C14 (k : Nat) (s : Bs) (hs : s.length ≤ 500000) (hk : 500300 ≤ k) : Ak k 14 [sV (ba s)] [] = some (R (parV (parseT s))) := by
  obtain ⟨k, rfl⟩ : ∃ k', k = k' + 1 := ⟨k - 1, by omega⟩
  refine (call14 k (ba s)).trans ?_
  rw [e14_eq]
  show r_t3a2IL2oSoB (Ak k 43 [sV (ba s), iV ((40 : Nat) : Int)] []) [] _ = _
  rw [C43 40 k s 500000 (by omega) (by omega) hs (by omega)]
  unfold okV parseT
  cases h : readT 40 s with
  | none => rfl
  | some p =>
    obtain ⟨t, r⟩ := p
    simp only
    rw [g_t3a2IL2oSoB, Bool.not_true, cond_false]
    show (bif !beqL r [] then _ else _) = _
    rw [beqL_eq]
    cases r with
    | cons c r => rfl
    | nil =>
      rw [decide_eq_true rfl, Bool.not_true, cond_false]
      have := C16 k (by omega) t
      unfold T.v at this
      rw [this, g_oB]
      cases hd : deepT 40 t with
      | false => simp only [hd, Bool.false_eq_true, if_false]; rfl
      | true => rw [Bool.not_true, cond_false, q14_0_eq]; simp only [hd, if_true]; rfl
end
section
set_option linter.unusedVariables false
set_option linter.unusedSimpArgs false
open Go Go.RowKit
theorem C66 (k : Nat) (s x : Bs) (i : Nat) (hi : i ≤ s.length) (hs : s.length ≤ 1000000000) (hx : x.length ≤ 1000) : Ak (k + 1) 66 [sV (ba s), iV (Int.ofNat i), sV (ba x)] [] = some (R (bV (cutP x (s.drop i)).isSome)) := by
  refine (call66 k (ba s) (Int.ofNat i) (ba x)).trans ?_
  rw [e66_eq, ba_size, ba_size, wrap_in _ (by simp only [Int.ofNat_eq_natCast]; omega) (by simp only [Int.ofNat_eq_natCast]; omega), isSome_cutP, List.length_drop]
  have e0 : Int.ofNat i + Int.ofNat x.length = Int.ofNat (i + x.length) := by simp only [Int.ofNat_eq_natCast]; omega
  rw [e0]
  by_cases h : i + x.length ≤ s.length
  · rw [decide_eq_true (show Int.ofNat (i + x.length) ≤ Int.ofNat s.length by simp only [Int.ofNat_eq_natCast]; omega), cond_true]
    have e : (decide (0 ≤ Int.ofNat (i + x.length)) && true && decide (0 ≤ Int.ofNat i) && decide (Int.ofNat i ≤ Int.ofNat (i + x.length))) = true := by simp; omega
    rw [e, cond_true, tn, tn, ba_extract, ba_list, ba_list, beqL_eq]
    refine retP ?_
    rw [List.drop_take, show i + x.length - i = x.length by omega]
    exact ⟨fun e => ⟨by omega, e⟩, fun e => e.2⟩
  · rw [decide_eq_false (show ¬ Int.ofNat (i + x.length) ≤ Int.ofNat s.length by simp only [Int.ofNat_eq_natCast]; omega), cond_false, decide_eq_false (fun e => by omega)]
theorem readR_inv {n : Nat} {s r : Bs} {t : T} (h : readR n s = some (t, r)) : s = textT t ++ r ∧ readT n s = some (t, r) := by
  rw [readR_eq, Option.filter_eq_some_iff] at h
  exact ⟨readT_inv _ _ _ _ h.1, h.1⟩
/-- What the reference hands back. -/
def Res44 (s : Bs) (x : Option (T × Bs)) (o : Option Out) : Prop :=
  ∃ (t' : T) (e' : Int), o = some (R (.tup [t'.v, iV e', bV x.isSome])) ∧ ∀ t r, x = some (t, r) → t' = t ∧ e' = Int.ofNat (s.length - r.length)
theorem Res44.fail {s : Bs} {t' : T} {e' : Int} : Res44 s none (some (R (.tup [t'.v, iV e', bV false]))) := ⟨t', e', rfl, fun t r h => by cases h⟩
theorem Res44.ok {s r : Bs} {t : T} {e' : Int} (h : e' = Int.ofNat (s.length - r.length)) : Res44 s (some (t, r)) (some (R (.tup [t.v, iV e', bV true]))) := ⟨t, e', rfl, fun t' r' h' => by cases h'; exact ⟨rfl, h⟩⟩
theorem drop_of {s a b : Bs} {i : Nat} (h : s.drop i = a ++ b) (hi : i ≤ s.length) : s.drop (s.length - b.length) = b ∧ s.length - b.length = i + a.length ∧ b.length ≤ s.length := by
  have h1 := congrArg List.length h
  rw [List.length_drop, List.length_append] at h1
  have h2 : s.length - b.length = i + a.length := by omega
  refine ⟨?_, h2, by omega⟩
  rw [h2, ← List.drop_drop, h, List.drop_left]
theorem L44 (k n : Nat) (s : Bs) (hs : s.length ≤ 1000000) (hn : n ≤ 40) (n2 : Nat) (d : Int) (hd : d = 40 - n)
    (hΓ : ∀ i : Nat, i ≤ s.length → Res44 s (readR n (s.drop i)) (Ak (k + 1) 44 [sV (ba s), iV (Int.ofNat i), iV (d + 1)] [])) :
    ∀ (m f i : Nat) (acc : List T), i ≤ s.length → s.length - i < m → s.length - i < f → acc.length ≤ i →
      Res44 s ((loopR (readR n) f (s.drop i) acc).map fun x => (T.mk 3 x.1, x.2)) (l44_0_v1 m (Ak (k + 1)) n2 (ba s) (Int.ofNat i) d 0 3 (T.rows acc)) := by
  intro m
  induction m with
  | zero => intro f i acc _ h; omega
  | succ m ih =>
    intro f i acc hi hm hf hacc
    obtain ⟨f, rfl⟩ : ∃ f', f = f' + 1 := ⟨f - 1, by omega⟩
    obtain ⟨t', e', ho, he⟩ := hΓ i hi
    unfold T.v at ho
    rw [l44_0_v1_eq, wrap_in _ (by omega) (by omega), ho, g_t3a2IL2oIoB]
    unfold loopR
    cases hr : readR n (s.drop i) with
    | none => exact Res44.fail (t' := .mk 0 [])
    | some p =>
      obtain ⟨t, r1⟩ := p
      obtain ⟨rfl, rfl⟩ := he t r1 hr
      obtain ⟨hinv, hT⟩ := readR_inv hr
      obtain ⟨h1, h2, h3⟩ := drop_of hinv hi
      have hsz := textT_pos t'
      have hlen : (T.rows acc).length = acc.length := T.rows_len acc
      rw [Option.isSome_some, Bool.not_true, cond_false, q44_0_v1_eq, hlen, ble_t (by simp only [List.length_cons, List.length_nil]; omega)]
      simp only [Bool.and_self, cond_true]
      have hb := C66 k s sepB (s.length - r1.length) (by omega) (by omega) (by decide)
      rw [h1] at hb
      show Res44 s _ (r_oB (Ak (k + 1) 66 [sV (ba s), iV (Int.ofNat (s.length - r1.length)), sV (ba sepB)] []) [] _)
      rw [hb, g_oB, ← T.rows_one, ← T.rows_app]
      cases hc : cutP sepB r1 with
      | some r3 =>
        rw [Option.isSome_some, Bool.not_true, cond_false, q44_1_eq]
        have h5 := congrArg List.length (cutP_some hc)
        rw [List.length_append, show sepB.length = 2 from rfl] at h5
        have e6 : Int.ofNat (s.length - r1.length) + 2 = Int.ofNat (s.length - r3.length) := by simp only [Int.ofNat_eq_natCast]; omega
        have e7 : s.drop (s.length - r3.length) = r3 := by
          have := cutP_some hc
          exact (drop_of (s := s) (a := sepB) (b := r3) (i := s.length - r1.length) (by rw [h1, this]) (by omega)).1
        rw [wrap_in _ (by simp only [Int.ofNat_eq_natCast]; omega) (by simp only [Int.ofNat_eq_natCast]; omega), e6]
        have := ih f (s.length - r3.length) (acc ++ [t']) (by omega) (by omega) (by omega) (by rw [List.length_append, List.length_cons, List.length_nil]; omega)
        rw [e7] at this
        exact this
      | none =>
        rw [Option.isSome_none, Bool.not_false, cond_true]
        have hb2 := C66 k s [41] (s.length - r1.length) (by omega) (by omega) (by decide)
        rw [h1] at hb2
        show Res44 s _ (r_oB (Ak (k + 1) 66 [sV (ba s), iV (Int.ofNat (s.length - r1.length)), sV (ba [41])] []) [] _)
        rw [hb2, g_oB]
        cases hd : cutP [41] r1 with
        | none => exact Res44.fail (t' := .mk 3 _)
        | some r2 =>
          have h5 := congrArg List.length (cutP_some hd)
          rw [List.length_append, List.length_cons, List.length_nil] at h5
          have e6 : IntKind.wrap .i64 (Int.ofNat (s.length - r1.length) + 1) = Int.ofNat (s.length - r2.length) := by
            rw [wrap_up _ (by omega)]; congr 1; omega
          rw [Option.isSome_some, cond_true, T.rows_len, e6]
          by_cases h7 : 2 ≤ (acc ++ [t']).length
          · rw [decide_eq_true (show Int.ofNat (acc ++ [t']).length ≥ 2 by simp only [Int.ofNat_eq_natCast]; omega), cond_true]
            by_cases h8 : (acc ++ [t']).length ≤ 4
            · rw [decide_eq_true (show Int.ofNat (acc ++ [t']).length ≤ 4 by simp only [Int.ofNat_eq_natCast]; omega)]
              simp only [if_pos (And.intro h7 h8)]
              exact Res44.ok (t := .mk 3 _) rfl
            · rw [decide_eq_false (show ¬ Int.ofNat (acc ++ [t']).length ≤ 4 by simp only [Int.ofNat_eq_natCast]; omega)]
              simp only [if_neg (show ¬ (2 ≤ (acc ++ [t']).length ∧ (acc ++ [t']).length ≤ 4) from fun h => h8 h.2)]
              exact Res44.fail (t' := .mk 3 _)
          · rw [decide_eq_false (show ¬ Int.ofNat (acc ++ [t']).length ≥ 2 by simp only [Int.ofNat_eq_natCast]; omega), cond_false]
            simp only [if_neg (show ¬ (2 ≤ (acc ++ [t']).length ∧ (acc ++ [t']).length ≤ 4) from fun h => h7 h.1)]
            exact Res44.fail (t' := .mk 3 _)
theorem C44 (s : Bs) (hs : s.length ≤ 1000000) : ∀ (n k i : Nat), n ≤ 40 → i ≤ s.length → s.length + n + 10 ≤ k → Res44 s (readR n (s.drop i)) (Ak k 44 [sV (ba s), iV (Int.ofNat i), iV (41 - (n : Nat) : Int)] [])
  | n, 0, i, _, _, h => by omega
  | 0, k + 1, i, _, _, _ => by
    rw [show Ak (k + 1) 44 [sV (ba s), iV (Int.ofNat i), iV (41 - (0 : Nat) : Int)] [] = _ from call44 k (ba s) (Int.ofNat i) (41 - (0 : Nat) : Int), e44_eq]
    exact Res44.fail (t' := .mk 0 [])
  | n + 1, k + 1, i, hn, hi, hk => by
    obtain ⟨k, rfl⟩ : ∃ k', k = k' + 1 := ⟨k - 1, by omega⟩
    have hΓ : ∀ i : Nat, i ≤ s.length → Res44 s (readR n (s.drop i)) (Ak (k + 1) 44 [sV (ba s), iV (Int.ofNat i), iV ((40 - (n : Nat) : Int) + 1)] []) := fun i hi => by
      have := C44 s hs n (k + 1) i (by omega) hi (by omega)
      rw [show (41 - (n : Nat) : Int) = 40 - (n : Nat) + 1 by omega] at this
      exact this
    rw [show Ak (k + 1 + 1) 44 [sV (ba s), iV (Int.ofNat i), iV (41 - (n + 1 : Nat) : Int)] [] = _ from call44 (k + 1) (ba s) (Int.ofNat i) (41 - (n + 1 : Nat) : Int), e44_eq,
      show (41 - ((n + 1 : Nat) : Int)) = 40 - (n : Nat) by omega, decide_eq_false (by omega), cond_false]
    have lit : ∀ (x : Bs) (K : Bool → Option Out), x.length ≤ 1000 → r_oB (Ak (k + 1) 66 [sV (ba s), iV (Int.ofNat i), sV (ba x)] []) [] K = K (cutP x (s.drop i)).isSome := fun x K hx => by
      rw [C66 k s x i hi (by omega) hx, g_oB]
    have adv : ∀ {x r : Bs}, cutP x (s.drop i) = some r → s.drop (s.length - r.length) = r ∧ s.length - r.length = i + x.length ∧ r.length ≤ s.length := fun {x r} h => drop_of (cutP_some h) hi
    show Res44 s _ (r_oB (Ak (k + 1) 66 [sV (ba s), iV (Int.ofNat i), sV (ba [98, 111, 111, 108])] []) [] _)
    rw [lit _ _ (by decide)]
    unfold readR
    cases h1 : cutP [98, 111, 111, 108] (s.drop i) with
    | some r =>
      obtain ⟨_, h3, h4⟩ := adv h1
      refine Res44.ok (t := .mk 1 []) ?_
      rw [wrap_in _ (by simp only [Int.ofNat_eq_natCast]; omega) (by simp only [Int.ofNat_eq_natCast]; omega), h3]
      rfl
    | none =>
      simp only [Option.isSome_none, cond_false]
      show Res44 s _ (r_oB (Ak (k + 1) 66 [sV (ba s), iV (Int.ofNat i), sV (ba [105, 110, 116])] []) [] _)
      rw [lit _ _ (by decide)]
      cases h2 : cutP [105, 110, 116] (s.drop i) with
      | some r =>
        obtain ⟨_, h3, h4⟩ := adv h2
        refine Res44.ok (t := .mk 2 []) ?_
        rw [wrap_in _ (by simp only [Int.ofNat_eq_natCast]; omega) (by simp only [Int.ofNat_eq_natCast]; omega), h3]
        rfl
      | none =>
        simp only [Option.isSome_none, cond_false]
        show Res44 s _ (r_oB (Ak (k + 1) 66 [sV (ba s), iV (Int.ofNat i), sV (ba [91])] []) [] _)
        rw [lit _ _ (by decide)]
        cases h5 : cutP [91] (s.drop i) with
        | some r =>
          obtain ⟨h6, h7, h8⟩ := adv h5
          have h9 : i + 1 ≤ s.length := by rw [← show i + [(91 : UInt8)].length = i + 1 from rfl, ← h7]; omega
          have e10 : s.drop (i + 1) = r := by rw [← h6, h7]; rfl
          simp only [Option.isSome_some, cond_true]
          obtain ⟨t', e', ho, he⟩ := hΓ (i + 1) h9
          unfold T.v at ho
          rw [wrap_up _ (by omega), wrap_in _ (by omega) (by omega), ho, g_t3a2IL2oIoB, e10]
          rw [e10] at he
          cases hr : readR n r with
          | none =>
            rw [← T.rows_one]
            exact Res44.fail (t' := .mk 4 [t'])
          | some p =>
            obtain ⟨t, r1⟩ := p
            obtain ⟨rfl, rfl⟩ := he t r1 hr
            obtain ⟨hinv, _⟩ := readR_inv hr
            obtain ⟨h11, h12, h13⟩ := drop_of (s := s) (i := i + 1) (by rw [e10]; exact hinv) h9
            have hb := C66 k s [93] (s.length - r1.length) (by omega) (by omega) (by decide)
            rw [h11] at hb
            simp only [Option.isSome_some, cond_true]
            show Res44 s _ (r_oB (Ak (k + 1) 66 [sV (ba s), iV (Int.ofNat (s.length - r1.length)), sV (ba [93])] []) [] _)
            rw [hb, g_oB, ← T.rows_one]
            cases hc : cutP [93] r1 with
            | none => exact Res44.fail (t' := .mk 4 [t'])
            | some r2 =>
              have h5 := congrArg List.length (cutP_some hc)
              rw [List.length_append, List.length_cons, List.length_nil] at h5
              refine Res44.ok (t := .mk 4 [t']) ?_
              rw [wrap_up _ (by omega)]; congr 1; omega
        | none =>
          simp only [Option.isSome_none, cond_false]
          show Res44 s _ (r_oB (Ak (k + 1) 66 [sV (ba s), iV (Int.ofNat i), sV (ba [40])] []) [] _)
          rw [lit _ _ (by decide)]
          cases h14 : cutP [40] (s.drop i) with
          | none => rw [Option.isSome_none, cond_false, q44_2_eq]; exact Res44.fail (t' := .mk 0 [])
          | some r =>
            obtain ⟨h6, h7, h8⟩ := adv h14
            have h9 : i + 1 ≤ s.length := by rw [← show i + [(40 : UInt8)].length = i + 1 from rfl, ← h7]; omega
            have e10 : s.drop (i + 1) = r := by rw [← h6, h7]; rfl
            have hrl : r.length = s.length - (i + 1) := by rw [← e10, List.length_drop]
            rw [Option.isSome_some, cond_true, wrap_up _ (by omega), l44_0_eq]
            obtain ⟨t', e', ho, he⟩ := hΓ (i + 1) h9
            unfold T.v at ho
            rw [wrap_in _ (by omega) (by omega), ho, g_t3a2IL2oIoB]
            simp only
            unfold loopR
            rw [e10] at he ⊢
            cases hr : readR n r with
            | none => exact Res44.fail (t' := .mk 0 [])
            | some p =>
              obtain ⟨t, r1⟩ := p
              obtain ⟨rfl, rfl⟩ := he t r1 hr
              obtain ⟨hinv, _⟩ := readR_inv hr
              obtain ⟨h1, h2, h3⟩ := drop_of (s := s) (i := i + 1) (by rw [e10]; exact hinv) h9
              have hsz := textT_pos t'
              rw [Option.isSome_some, Bool.not_true, cond_false, q44_0_eq]
              have hb := C66 k s sepB (s.length - r1.length) (by omega) (by omega) (by decide)
              rw [h1] at hb
              show Res44 s _ (r_oB (Ak (k + 1) 66 [sV (ba s), iV (Int.ofNat (s.length - r1.length)), sV (ba sepB)] []) [] _)
              rw [hb, g_oB, ← T.rows_one]
              dsimp only
              cases hc : cutP sepB r1 with
              | some r3 =>
                rw [Option.isSome_some, Bool.not_true, cond_false, q44_1_eq]
                have h5 := congrArg List.length (cutP_some hc)
                rw [List.length_append, show sepB.length = 2 from rfl] at h5
                have e6 : Int.ofNat (s.length - r1.length) + 2 = Int.ofNat (s.length - r3.length) := by simp only [Int.ofNat_eq_natCast]; omega
                have e7 : s.drop (s.length - r3.length) = r3 := by
                  have := cutP_some hc
                  exact (drop_of (s := s) (a := sepB) (b := r3) (i := s.length - r1.length) (by rw [h1, this]) (by omega)).1
                rw [wrap_in _ (by simp only [Int.ofNat_eq_natCast]; omega) (by simp only [Int.ofNat_eq_natCast]; omega), e6]
                have := L44 k n s hs (by omega) (k + 1) (40 - (n : Nat) : Int) rfl hΓ k r.length (s.length - r3.length) [t'] (by omega) (by omega) (by omega) (by simp only [List.length_cons, List.length_nil]; omega)
                rw [e7] at this
                exact this
              | none =>
                rw [Option.isSome_none, Bool.not_false, cond_true]
                have hb2 := C66 k s [41] (s.length - r1.length) (by omega) (by omega) (by decide)
                rw [h1] at hb2
                show Res44 s _ (r_oB (Ak (k + 1) 66 [sV (ba s), iV (Int.ofNat (s.length - r1.length)), sV (ba [41])] []) [] _)
                rw [hb2, g_oB]
                cases hd : cutP [41] r1 with
                | none => exact Res44.fail (t' := .mk 3 [t'])
                | some r2 =>
                  simp only [List.nil_append, List.length_cons, List.length_nil, show ¬ (2 ≤ 0 + 1 ∧ 0 + 1 ≤ 4) by omega, if_false]
                  exact Res44.fail (t' := .mk 3 [t'])
theorem C15 (k : Nat) (s : Bs) (hs : s.length ≤ 500000) (hk : 500300 ≤ k) : Ak k 15 [sV (ba s)] [] = some (R (parV (parseT s))) := by
  obtain ⟨k, rfl⟩ : ∃ k', k = k' + 1 := ⟨k - 1, by omega⟩
  refine (call15 k (ba s)).trans ?_
  rw [e15_eq]
  obtain ⟨t', e', ho, he⟩ := C44 s (by omega) 40 k 0 (by omega) (by omega) (by omega)
  rw [List.drop_zero] at ho he
  show r_t3a2IL2oIoB (Ak k 44 [sV (ba s), iV (Int.ofNat 0), iV (41 - (40 : Nat) : Int)] []) [] _ = _
  unfold T.v at ho
  rw [ho, g_t3a2IL2oIoB, ba_size, ← parseR_eq]
  unfold parseR
  cases hr : readR 40 s with
  | none => rfl
  | some p =>
    obtain ⟨t, r⟩ := p
    obtain ⟨rfl, rfl⟩ := he t r hr
    have hinv := congrArg List.length (readR_inv hr).1
    rw [List.length_append] at hinv
    have := textT_pos t'
    rw [Option.isSome_some, Bool.not_true, cond_false, ofNat_neb]
    cases r with
    | nil => rw [decide_eq_true (by simp), Bool.not_true, cond_false, q15_0_eq]; rfl
    | cons c r => rw [decide_eq_false (by simp only [List.length_cons] at *; omega), Bool.not_false, cond_true]; rfl
end
section
set_option linter.unusedVariables false
set_option linter.unusedSimpArgs false
open Go Go.RowKit
theorem strRows_at (l : List Bs) (i : Nat) (h : i < l.length) : (strRows l).getD i [] = [D.str (ba (l.getD i []))] := by
  unfold strRows
  rw [List.getD_eq_getElem?_getD, List.getElem?_map, List.getElem?_eq_getElem h, List.getD_eq_getElem?_getD, List.getElem?_eq_getElem h]
  rfl
theorem joinTail_cons (sep x : Bs) (r : List Bs) : Lib.joinTail sep (x :: r) = sep ++ x ++ Lib.joinTail sep r := by unfold Lib.joinTail; simp
theorem L49 (k : Nat) (l : List Bs) (n2 : Nat) (hl : l.length ≤ 10000000) :
    ∀ (m i : Nat) (s : Bs), 1 ≤ i → l.length - i < m → s.length + (Lib.joinTail sepB (l.drop i)).length ≤ 1000000000 → l49_0_v1 m (Ak k) n2 (strRows l) (ba s) (Int.ofNat i) = some (R (sV (ba (s ++ Lib.joinTail sepB (l.drop i))))) := by
  intro m
  induction m with
  | zero => intro i s _ h; omega
  | succ m ih =>
    intro i s h1 h hs
    rw [l49_0_v1_eq, strRows_len]
    by_cases hi : i < l.length
    · have hd : l.drop i = l.getD i [] :: l.drop (i + 1) := by
        rw [List.drop_eq_getElem_cons hi, List.getD_eq_getElem?_getD, List.getElem?_eq_getElem hi]; rfl
      rw [hd, joinTail_cons] at hs ⊢
      simp only [List.length_append, show sepB.length = 2 from rfl] at hs
      have e44 : ByteArray.mk #[44, 32] = ba sepB := rfl
      rw [lt_yes i _ hi, cond_true, q49_0_v1_eq, decide_eq_true (show Int.ofNat i > 0 by simp only [Int.ofNat_eq_natCast]; omega), cond_true, ba_size, ble_t (by omega), cond_true, e44, ba_app, q49_1_v1_eq, strRows_len, in_range i _ hi, cond_true, tn, strRows_at l i hi,
        getD0, isStr_s, cond_true, bytes_s, ba_size, ba_size, ble_t (by simp only [List.length_append, show sepB.length = 2 from rfl]; omega), cond_true, ba_app, q49_2_eq, wrap_up i (by omega),
        ih (i + 1) _ (by omega) (by omega) (by simp only [List.length_append, show sepB.length = 2 from rfl]; omega)]
      simp only [List.append_assoc]
    · rw [lt_no i _ (by omega), cond_false, q49_3_eq, List.drop_eq_nil_of_le (by omega)]
      unfold Lib.joinTail
      simp
theorem C49 (k : Nat) (l : List Bs) (hl : l.length ≤ 10000000) (hj : (Lib.join l sepB).length ≤ 1000000000) (hk : l.length + 3 ≤ k) : Ak k 49 [V.one (X.d (D.list 1 (strRows l)))] [] = some (R (sV (ba (Lib.join l sepB)))) := by
  obtain ⟨k, rfl⟩ : ∃ k', k = k' + 2 := ⟨k - 2, by omega⟩
  refine (call49_v1 (k + 1) (strRows l)).trans ?_
  have e0 : ByteArray.mk #[] = ba [] := rfl
  rw [e49_v1_eq, l49_0_v1_eq, strRows_len, e0, show (0 : Int) = Int.ofNat 0 from rfl]
  cases l with
  | nil => rw [lt_no 0 _ (by simp), cond_false, q49_3_eq]; rfl
  | cons x r =>
    rw [Lib.join_cons] at hj ⊢
    rw [List.length_append] at hj
    rw [lt_yes 0 _ (by simp), cond_true, q49_0_v1_eq, decide_eq_false (by decide), cond_false, q49_1_v1_eq, strRows_len, in_range 0 _ (by simp), cond_true, tn, strRows_at _ 0 (by simp), getD0, isStr_s, cond_true, bytes_s, ba_size, ba_size,
      ble_t (by simp only [List.length_nil, List.getD_cons_zero]; omega), cond_true, ba_app, q49_2_eq, wrap_up 0 (by omega)]
    exact L49 (k + 1) (x :: r) (k + 1) hl k 1 _ (by omega) (by simp only [List.length_cons] at *; omega) (by simpa using hj)
theorem C49n (k : Nat) : Ak (k + 2) 49 [V.one (X.nilL 1)] [] = some (R (sV (ba []))) := by
  refine (call49 (k + 1)).trans ?_
  rw [e49_eq, l49_0_eq]
  show (bif decide ((0 : Int) < 0) then _ else _) = _
  rw [decide_eq_false (by omega), cond_false, q49_3_eq]
  rfl
theorem fin21 (k : Nat) (Γ : SemL) (κ : Int) (x : Bs) (a : V) (hx : x.length ≤ 1000000000) (hc : Γ 49 [a] [] = some (R (sV (ba x)))) :
    (bif κ == 1 then some (Out.mk true (V.one (X.d (D.str (ByteArray.mk #[98, 111, 111, 108])))) D.junk [] 0) else bif κ == 2 then some (Out.mk true (V.one (X.d (D.str (ByteArray.mk #[105, 110, 116])))) D.junk [] 0)
      else bif κ == 3 then r_oS (Γ 49 [a] []) [] fun u1_ => bif Nat.ble (1 + ByteArray.size u1_) 9223372036854775807 then bif Nat.ble (ByteArray.size (ByteArray.mk #[40] ++ u1_) + 1) 9223372036854775807 then some (Out.mk true (V.one (X.d (D.str (ByteArray.mk #[40] ++ u1_ ++ ByteArray.mk #[41])))) D.junk [] 0) else none else none
      else bif κ == 4 then r_oS (Γ 49 [a] []) [] fun u2_ => bif Nat.ble (1 + ByteArray.size u2_) 9223372036854775807 then bif Nat.ble (ByteArray.size (ByteArray.mk #[91] ++ u2_) + 1) 9223372036854775807 then some (Out.mk true (V.one (X.d (D.str (ByteArray.mk #[91] ++ u2_ ++ ByteArray.mk #[93])))) D.junk [] 0) else none else none else q21_3 Γ k) =
    some (R (sV (ba (if κ = 1 then [98, 111, 111, 108] else if κ = 2 then [105, 110, 116] else if κ = 3 then [40] ++ x ++ [41] else if κ = 4 then [91] ++ x ++ [93] else [63])))) := by
  have e40 : (ByteArray.mk #[40]) = ba [40] := rfl
  have e41 : (ByteArray.mk #[41]) = ba [41] := rfl
  have e91 : (ByteArray.mk #[91]) = ba [91] := rfl
  have e93 : (ByteArray.mk #[93]) = ba [93] := rfl
  rw [hc, g_oS, g_oS, e40, e41, e91, e93, ba_app, ba_app, ba_app, ba_app, ba_size, ba_size, ba_size, ble_t (by omega), ble_t (by simp; omega), ble_t (by simp; omega), q21_3_eq]
  simp only [int_eqb]
  by_cases h1 : κ = 1
  · subst h1; rfl
  · by_cases h2 : κ = 2
    · subst h2; rfl
    · by_cases h3 : κ = 3
      · subst h3; rfl
      · by_cases h4 : κ = 4
        · subst h4; rfl
        · rw [decide_eq_false h1, decide_eq_false h2, decide_eq_false h3, decide_eq_false h4, if_neg h1, if_neg h2, if_neg h3, if_neg h4]; rfl
theorem L21 (k : Nat) (κ : Int) (l : List T) (n2 : Nat) (hl : T.sizes l ≤ 1000000) (hk : l.length + 3 ≤ k) (hΓ : ∀ t ∈ l, Ak k 21 [t.v] [] = some (R (sV (ba (textT t))))) :
    ∀ (m i : Nat) (acc : List Bs), acc ++ textTs (l.drop i) = textTs l → acc.length ≤ l.length → l.length - i < m → l21_0_v1 m (Ak k) n2 (strRows acc) (Int.ofNat i) κ (T.rows l) = some (R (sV (ba (textT (.mk κ l))))) := by
  intro m
  have hlen := T.sizes_len l
  induction m with
  | zero => intro i acc _ _ h; omega
  | succ m ih =>
    intro i acc ha hal h
    rw [l21_0_v1_eq, T.rows_len]
    by_cases hi : i < l.length
    · have := hΓ (l.getD i default) (getD_mem l i hi)
      unfold T.v at this
      rw [lt_yes i _ hi, cond_true, q21_0_v1_eq, T.rows_len, in_range i _ hi, cond_true, tn, T.rows_at l i hi, getD0, getD1, this, g_oS, strRows_len, ble_t (by simp only [List.length_cons, List.length_nil]; omega)]
      have e : strRows acc ++ [[D.str (ba (textT (l.getD i default)))]] = strRows (acc ++ [textT (l.getD i default)]) := by unfold strRows; simp
      rw [e]
      simp only [Bool.and_self, cond_true]
      rw [q21_1_eq, wrap_up i (by omega)]
      have ha2 : (acc ++ [textT (l.getD i default)]) ++ textTs (l.drop (i + 1)) = textTs l := by
        rw [← ha, drop_getD l i hi, textTs]; simp
      refine ih (i + 1) _ ha2 ?_ (by omega)
      have := congrArg List.length ha2
      rw [List.length_append, textTs_map, textTs_map, List.length_map, List.length_map, List.length_drop] at this
      omega
    · rw [lt_no i _ (by omega), cond_false, q21_2_v1_eq]
      have hacc : acc = textTs l := by rw [← ha, List.drop_eq_nil_of_le (by omega), textTs]; simp
      subst hacc
      have hj := join_textTs_len l
      have hll : (textTs l).length = l.length := by rw [textTs_map, List.length_map]
      rw [fin21 _ _ _ _ _ (by omega) (C49 k (textTs l) (by omega) (by omega) (by omega)), textT]
theorem C21 : ∀ (k : Nat) (t : T), t.size ≤ 1000000 → t.size + 6 ≤ k → Ak k 21 [t.v] [] = some (R (sV (ba (textT t))))
  | 0, t, _, h => by omega
  | k + 1, t, hs, hk => by
    have hsz := t.size_eq
    have hlen := T.sizes_len t.l
    obtain ⟨κ, l⟩ := t
    simp only [T.l, T.k] at *
    refine (call21 k κ (T.rows l)).trans ?_
    rw [e21_eq]
    have hΓ : ∀ t ∈ l, Ak k 21 [t.v] [] = some (R (sV (ba (textT t)))) := fun x hx => C21 k x (by have := T.mem_size hx; omega) (by have := T.mem_size hx; omega)
    obtain ⟨k, rfl⟩ : ∃ k', k = k' + 2 := ⟨k - 2, by omega⟩
    rw [l21_0_eq, T.rows_len]
    by_cases hi : 0 < l.length
    · have := hΓ (l.getD 0 default) (getD_mem l 0 hi)
      unfold T.v at this
      rw [show (0 : Int) = Int.ofNat 0 from rfl, lt_yes 0 _ hi, cond_true, q21_0_eq, T.rows_len, in_range 0 _ hi, cond_true, tn, T.rows_at l 0 hi, getD0, getD1, this, g_oS, q21_1_eq, wrap_up 0 (by omega), strRows_one]
      exact L21 (k + 2) κ l (k + 2) (by omega) (by omega) hΓ (k + 1) 1 [textT (l.getD 0 default)] (by rw [← List.drop_zero (l := l), drop_getD l 0 hi, textTs]; simp) (by simp; omega) (by omega)
    · rw [show (0 : Int) = Int.ofNat 0 from rfl, lt_no 0 _ (by omega), cond_false, q21_2_eq]
      have hl0 : l = [] := List.eq_nil_of_length_eq_zero (by omega)
      subst hl0
      rw [fin21 _ _ _ _ _ (by simp) (C49n k), textT, textTs, Lib.join_nil]
theorem awake_call : Ak 1000000 13 [] [] = some (R (bV true)) := awake_run
theorem parsed_size {s : Bs} {t : T} (h : parseT s = some t) : t.size ≤ s.length := by
  unfold parseT at h
  split at h
  · rename_i t' ht
    split at h
    · cases h
      have := readT_size ht
      have h2 := congrArg List.length (readT_inv _ _ _ _ ht)
      rw [List.length_append] at h2
      omega
    · cases h
  · cases h
theorem lawTypes (a b : T) (s : ByteArray) : Ak 1000001 3 [a.v, b.v, sV s] [] = some (R (bV true)) := by
  refine (call3 1000000 a.k (T.rows a.l) b.k (T.rows b.l) s).trans ?_
  rw [e3_eq]
  have e2 : [[D.int IntKind.i64 a.k, D.list 2 (T.rows a.l)], [D.int IntKind.i64 b.k, D.list 2 (T.rows b.l)]] = T.rows [a, b] := by rw [T.rows, T.rows, T.rows, T.row_eq, T.row_eq]
  have hf := C12 999999 2000 (by omega) (by omega) (by omega) [a, b] (by simp)
  rw [← e2] at hf
  rw [hf, g_oB]
  have hsz : T.sizes [a, b] = a.size + b.size := by rw [T.sizes, T.sizes, T.sizes]; omega
  by_cases h1 : ((T.sizes [a, b] : Nat) : Int) ≤ 2000
  · rw [decide_eq_true h1, Bool.not_true, cond_false]
    by_cases h2 : Int.ofNat s.size > 2000
    · rw [decide_eq_true h2, cond_true, awake_call, g_oB]
    · rw [decide_eq_false h2, cond_false, q3_0_eq]
      obtain ⟨l, rfl⟩ : ∃ l, s = ba l := ⟨_, ba_of s⟩
      rw [ba_size] at h2
      have hl : l.length ≤ 2000 := by simp only [Int.ofNat_eq_natCast] at h2; omega
      have h14 := C14 1000000 l (by omega) (by omega)
      have h15 := C15 1000000 l (by omega) (by omega)
      have h16 := C16 1000000 (by omega) a
      have h17 := C17 1000000 (by omega) a
      have h18 := C18 1000000 a b (by omega) (by omega)
      have h19 := C19 1000000 a b (by omega) (by omega)
      have h20 := C20 1000000 a (by omega) (by omega)
      have h21 := C21 1000000 a (by omega) (by omega)
      unfold T.v at h16 h17 h18 h19 h20 h21
      obtain ⟨t, n, ht, hp⟩ : ∃ (t : T) (n : Int), t.size ≤ 2000 ∧ parV (parseT l) = .tup [t.v, iV n] := by
        cases hp : parseT l with
        | none => exact ⟨.mk 0 [], 33, by rw [T.size, T.sizes]; omega, rfl⟩
        | some t =>
          have := parsed_size hp
          exact ⟨t, 0, by omega, rfl⟩
      have h22 := C22 1000000 t t (by omega) (by omega)
      unfold T.v at h22
      rw [h14, h15, hp, T.v, g_t2a2IL2oI, g_t2a2IL2oI, h16, h17, g_oB, g_oB]
      simp only [BEq.rfl, cond_true]
      rw [h18, h19, g_oB, g_oB]
      simp only [BEq.rfl, cond_true]
      rw [h20, h21, g_oS, g_oS, beqL_eq, decide_eq_true rfl, cond_true, h22, g_oB, (T.beq_iff t t).2 rfl, cond_true, awake_call, g_oB]
  · rw [decide_eq_false h1, Bool.not_false, cond_true, awake_call, g_oB]
end
end Go.Proofs.YtkpdofiflhjahaaDoor.Ps
