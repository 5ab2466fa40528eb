/- How many parts: the laws' guards. -/
import Derived.Test.YtkpdofiflhjahaaDoorPvA
import Derived.Test.YtkpdofiflhjahaaDoorVn
namespace Go.Proofs.YtkpdofiflhjahaaDoor.Ps
set_option linter.unusedVariables false
open Go Go.RowKit
theorem T.size_eq (t : T) : t.size = 1 + T.sizes t.l := by cases t; rw [T.size]; rfl
theorem W.size_eq (t : W) : t.size = 1 + W.sizes t.l := by cases t; rw [W.size]; rfl
theorem T.sizes_drop (l : List T) (i : Nat) (h : i < l.length) : T.sizes (l.drop i) = (l.getD i default).size + T.sizes (l.drop (i + 1)) := by
  rw [List.drop_eq_getElem_cons h, T.sizes, List.getD_eq_getElem?_getD, List.getElem?_eq_getElem h]; rfl
theorem W.sizes_drop (l : List W) (i : Nat) (h : i < l.length) : W.sizes (l.drop i) = (l.getD i default).size + W.sizes (l.drop (i + 1)) := by
  rw [List.drop_eq_getElem_cons h, W.sizes, List.getD_eq_getElem?_getD, List.getElem?_eq_getElem h]; rfl
theorem T.size_pos (t : T) : 1 ≤ t.size := by rw [T.size_eq]; omega
theorem W.size_pos (t : W) : 1 ≤ t.size := by rw [W.size_eq]; omega
/-- Counting from n on, no further than one above the most. -/
def capL (n s most : Int) : Int := if most < n then n else if n + s ≤ most then n + s else most + 1
theorem capL_mono {n s most : Int} (h : 0 ≤ s) : n ≤ capL n s most := by unfold capL; split <;> (try split) <;> omega
theorem retI {a b : Int} (h : a = b) : some (R (iV a)) = some (R (iV b)) := by rw [h]
theorem retB {a b : Bool} (h : a = b) : some (R (bV a)) = some (R (bV b)) := by rw [h]
theorem retS {a b : ByteArray} (h : a = b) : some (R (sV a)) = some (R (sV b)) := by rw [h]
theorem retP {p q : Prop} [Decidable p] [Decidable q] (h : p ↔ q) : some (R (bV (decide p))) = some (R (bV (decide q))) := retB (decide_eq_decide.2 h)
theorem cond_t {α : Type} {c : Bool} (a b : α) (h : c = true) : (bif c then a else b) = a := by rw [h]; rfl
theorem cond_f {α : Type} {c : Bool} (a b : α) (h : c = false) : (bif c then a else b) = b := by rw [h]; rfl

section
variable (k : Nat)
/-! ### types -/
theorem L41 (most : Int) (hm : most ≤ 1000000) (d : Nat) (hΓ : ∀ (c : T) (n : Int), 0 ≤ n → n ≤ most → (most + 1 - n).toNat ≤ d → Ak k 41 [c.v, iV n, iV most] [] = some (R (iV (capL (n + 1) (c.size - 1 : Nat) most)))) (l : List T) (x3 : Int) (n2 : Nat) :
    ∀ (m i : Nat) (n : Int), (i : Int) ≤ n → n ≤ 4611686018427387905 → (most + 1 - n).toNat ≤ d → (most + 1 - n).toNat < m → l41_0 m (Ak k) n2 n most (Int.ofNat i) x3 (T.rows l) = some (R (iV (capL n (T.sizes (l.drop i)) most))) := by
  intro m
  induction m with
  | zero => intro i n _ _ _ h; omega
  | succ m ih =>
    intro i n hi h1 hd h
    rw [l41_0_eq, T.rows_len]
    by_cases hl : i < l.length
    · rw [lt_yes i _ hl, cond_true]
      by_cases hn : n ≤ most
      · rw [decide_eq_true hn, cond_true, q41_0_eq, T.rows_len, in_range i _ hl, cond_true, tn, T.rows_at l i hl, getD0, getD1, hΓ (l.getD i default) n (by omega) hn hd, g_oI, q41_1_eq, wrap_up i (by omega)]
        have h3 := T.size_pos (l.getD i default)
        have h4 : n + 1 ≤ capL (n + 1) ((l.getD i default).size - 1 : Nat) most := capL_mono (by omega)
        have h6 : capL (n + 1) ((l.getD i default).size - 1 : Nat) most ≤ most + 1 := by unfold capL; split <;> (try split) <;> omega
        rw [ih (i + 1) _ (by omega) (by omega) (by omega) (by omega), T.sizes_drop l i hl]
        refine retI ?_
        unfold capL
        split <;> split <;> (try split) <;> (try split) <;> omega
      · rw [decide_eq_false hn, cond_false, q41_2_eq]
        refine retI ?_
        unfold capL
        rw [if_pos (by omega)]
    · rw [lt_no i _ (by omega), cond_false, q41_2_eq, List.drop_eq_nil_of_le (by omega), T.sizes]
      refine retI ?_
      unfold capL
      split <;> (try split) <;> omega
end
theorem C41 (most : Int) (hm : most ≤ 1000000) : ∀ (d k : Nat) (t : T) (n : Int), 0 ≤ n → n ≤ 4611686018427387904 → (most + 1 - n).toNat ≤ d → d + 2 ≤ k → Ak k 41 [t.v, iV n, iV most] [] = some (R (iV (capL (n + 1) (t.size - 1 : Nat) most)))
  | d, 0, t, n, _, _, _, h => by omega
  | d, k + 1, t, n, h0, h1, hd, hk => by
    refine (call41 k t.k (T.rows t.l) n most).trans ?_
    rw [e41_eq, wrap_in (n + 1) (by omega) (by omega)]
    have e : t.size - 1 = T.sizes (t.l.drop 0) := by rw [T.size_eq, List.drop_zero]; omega
    rw [e]
    refine L41 k most hm (d - 1) (fun c n' h2 h3 h4 => C41 most hm (d - 1) k c n' h2 (by omega) h4 (by omega)) t.l t.k k k 0 (n + 1) (by omega) (by omega) (by omega) (by omega)
termination_by d k => k
theorem T.sizes_len : ∀ l : List T, l.length ≤ T.sizes l
  | [] => by simp
  | t :: r => by rw [T.sizes, List.length_cons]; have := T.sizes_len r; have := t.size_pos; omega
theorem W.sizes_len : ∀ l : List W, l.length ≤ W.sizes l
  | [] => by simp
  | t :: r => by rw [W.sizes, List.length_cons]; have := W.sizes_len r; have := t.size_pos; omega
/-- FewTypes. -/
theorem L12 (k : Nat) (most : Int) (h0 : 0 ≤ most) (hm : most ≤ 10000) (hk : 10004 ≤ k) (l : List T) (hll : l.length ≤ 10) (n2 : Nat) :
    ∀ (m i : Nat) (n : Int), i ≤ l.length → 0 ≤ n → n ≤ most + 1 + i → l.length - i < m → l12_0 m (Ak k) n2 most (T.rows l) n (Int.ofNat i) = some (R (bV (decide (capL n (T.sizes (l.drop i)) most ≤ most)))) := by
  intro m
  induction m with
  | zero => intro i n _ _ _ h; omega
  | succ m ih =>
    intro i n hi h1 h2 h
    rw [l12_0_eq, T.rows_len]
    by_cases hl : i < l.length
    · rw [lt_yes i _ hl, cond_true, q12_0_eq, T.rows_len, in_range i _ hl, cond_true, tn, T.rows_at l i hl, getD0, getD1,
        C41 most (by omega) 10001 k (l.getD i default) n h1 (by omega) (by omega) (by omega), g_oI, q12_1_eq, wrap_up i (by omega)]
      have h3 := T.size_pos (l.getD i default)
      have h4 : n + 1 ≤ capL (n + 1) ((l.getD i default).size - 1 : Nat) most := capL_mono (by omega)
      have h5 : capL (n + 1) ((l.getD i default).size - 1 : Nat) most ≤ most + 1 + (i + 1 : Nat) := by unfold capL; split <;> (try split) <;> omega
      rw [ih (i + 1) _ (by omega) (by omega) h5 (by omega), T.sizes_drop l i hl]
      refine retP ?_
      unfold capL
      split <;> split <;> (try split) <;> (try split) <;> omega
    · rw [lt_no i _ (by omega), cond_false, q12_2_eq, List.drop_eq_nil_of_le (by omega), T.sizes]
      refine retP ?_
      unfold capL
      split <;> (try split) <;> omega
theorem C12 (k : Nat) (most : Int) (h0 : 0 ≤ most) (hm : most ≤ 10000) (hk : 10004 ≤ k) (l : List T) (hll : l.length ≤ 10) : Ak (k + 1) 12 [iV most, V.one (X.d (D.list 2 (T.rows l)))] [] = some (R (bV (decide ((T.sizes l : Int) ≤ most)))) := by
  refine (call12 k most (T.rows l)).trans ?_
  rw [e12_eq]
  refine (L12 k most h0 hm hk l hll k k 0 0 (by omega) (by omega) (by omega) (by omega)).trans ?_
  refine retP ?_
  rw [List.drop_zero]
  unfold capL
  split <;> (try split) <;> omega

/-! ### values -/
theorem L50 (k : Nat) (most : Int) (hm : most ≤ 1000000) (d : Nat) (hΓ : ∀ (c : W) (n : Int), 0 ≤ n → n ≤ most → (most + 1 - n).toNat ≤ d → Ak k 50 [c.v, iV n, iV most] [] = some (R (iV (capL (n + 1) (c.size - 1 : Nat) most)))) (l : List W) (x3 x4 : Int) (n2 : Nat) :
    ∀ (m i : Nat) (n : Int), (i : Int) ≤ n → n ≤ 4611686018427387905 → (most + 1 - n).toNat ≤ d → (most + 1 - n).toNat < m → l50_0 m (Ak k) n2 n most (Int.ofNat i) x3 x4 (W.rows l) = some (R (iV (capL n (W.sizes (l.drop i)) most))) := by
  intro m
  induction m with
  | zero => intro i n _ _ _ h; omega
  | succ m ih =>
    intro i n hi h1 hd h
    rw [l50_0_eq, W.rows_len]
    by_cases hl : i < l.length
    · rw [lt_yes i _ hl, cond_true]
      by_cases hn : n ≤ most
      · rw [decide_eq_true hn, cond_true, q50_0_eq, W.rows_len, in_range i _ hl, cond_true, tn, W.rows_at l i hl, getD0, getD1, getD2, hΓ (l.getD i default) n (by omega) hn hd, g_oI, q50_1_eq, wrap_up i (by omega)]
        have h3 := W.size_pos (l.getD i default)
        have h4 : n + 1 ≤ capL (n + 1) ((l.getD i default).size - 1 : Nat) most := capL_mono (by omega)
        have h6 : capL (n + 1) ((l.getD i default).size - 1 : Nat) most ≤ most + 1 := by unfold capL; split <;> (try split) <;> omega
        rw [ih (i + 1) _ (by omega) (by omega) (by omega) (by omega), W.sizes_drop l i hl]
        refine retI ?_
        unfold capL
        split <;> split <;> (try split) <;> (try split) <;> omega
      · rw [decide_eq_false hn, cond_false, q50_2_eq]
        refine retI ?_
        unfold capL
        rw [if_pos (by omega)]
    · rw [lt_no i _ (by omega), cond_false, q50_2_eq, List.drop_eq_nil_of_le (by omega), W.sizes]
      refine retI ?_
      unfold capL
      split <;> (try split) <;> omega
theorem C50 (most : Int) (hm : most ≤ 1000000) : ∀ (d k : Nat) (t : W) (n : Int), 0 ≤ n → n ≤ 4611686018427387904 → (most + 1 - n).toNat ≤ d → d + 2 ≤ k → Ak k 50 [t.v, iV n, iV most] [] = some (R (iV (capL (n + 1) (t.size - 1 : Nat) most)))
  | d, 0, t, n, _, _, _, h => by omega
  | d, k + 1, t, n, h0, h1, hd, hk => by
    refine (call50 k t.k t.n (W.rows t.l) n most).trans ?_
    rw [e50_eq, wrap_in (n + 1) (by omega) (by omega)]
    have e : t.size - 1 = W.sizes (t.l.drop 0) := by rw [W.size_eq, List.drop_zero]; omega
    rw [e]
    refine L50 k most hm (d - 1) (fun c n' h2 h3 h4 => C50 most hm (d - 1) k c n' h2 (by omega) h4 (by omega)) t.l t.k t.n k k 0 (n + 1) (by omega) (by omega) (by omega) (by omega)
termination_by d k => k
/-- Few, where the list is short or long: a long list has many parts. -/
theorem L23 (k : Nat) (most : Int) (h0 : 0 ≤ most) (hm : most ≤ 10000) (hk : 10004 ≤ k) (l : List W) (hll : l.length ≤ 1000000000000000) (n2 : Nat) :
    ∀ (m i : Nat) (n : Int), i ≤ l.length → 0 ≤ n → n ≤ most + 1 + i → l.length - i < m → l23_0 m (Ak k) n2 most (W.rows l) n (Int.ofNat i) = some (R (bV (decide (capL n (W.sizes (l.drop i)) most ≤ most)))) := by
  intro m
  induction m with
  | zero => intro i n _ _ _ h; omega
  | succ m ih =>
    intro i n hi h1 h2 h
    rw [l23_0_eq, W.rows_len]
    by_cases hl : i < l.length
    · rw [lt_yes i _ hl, cond_true, q23_0_eq, W.rows_len, in_range i _ hl, cond_true, tn, W.rows_at l i hl, getD0, getD1, getD2,
        C50 most (by omega) 10001 k (l.getD i default) n h1 (by omega) (by omega) (by omega), g_oI, q23_1_eq, wrap_up i (by omega)]
      have h3 := W.size_pos (l.getD i default)
      have h4 : n + 1 ≤ capL (n + 1) ((l.getD i default).size - 1 : Nat) most := capL_mono (by omega)
      have h5 : capL (n + 1) ((l.getD i default).size - 1 : Nat) most ≤ most + 1 + (i + 1 : Nat) := by unfold capL; split <;> (try split) <;> omega
      rw [ih (i + 1) _ (by omega) (by omega) h5 (by omega), W.sizes_drop l i hl]
      refine retP ?_
      unfold capL
      split <;> split <;> (try split) <;> (try split) <;> omega
    · rw [lt_no i _ (by omega), cond_false, q23_2_eq, List.drop_eq_nil_of_le (by omega), W.sizes]
      refine retP ?_
      unfold capL
      split <;> (try split) <;> omega
theorem C23 (k : Nat) (most : Int) (h0 : 0 ≤ most) (hm : most ≤ 10000) (hk : 10004 ≤ k) (l : List W) (hll : l.length ≤ 1000000000000000) (hkl : l.length < k) : Ak (k + 1) 23 [iV most, V.one (X.d (D.list 3 (W.rows l)))] [] = some (R (bV (decide ((W.sizes l : Int) ≤ most)))) := by
  refine (call23 k most (W.rows l)).trans ?_
  rw [e23_eq]
  refine (L23 k most h0 hm hk l hll k k 0 0 (by omega) (by omega) (by omega) (by omega)).trans ?_
  refine retP ?_
  rw [List.drop_zero]
  unfold capL
  split <;> (try split) <;> omega
end Go.Proofs.YtkpdofiflhjahaaDoor.Ps
