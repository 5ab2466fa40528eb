/- Types: what is right; what is the same. -/
import Derived.Test.YtkpdofiflhjahaaDoorF1
import Derived.Test.YtkpdofiflhjahaaDoorPvT
namespace Go.Proofs.YtkpdofiflhjahaaDoor.Ps
set_option linter.unusedVariables false
set_option linter.unusedSimpArgs false
open Go Go.RowKit
theorem all_drop {α : Type} [Inhabited α] (p : α → Bool) (l : List α) (i : Nat) (h : i < l.length) : (l.drop i).all p = (p (l.getD i default) && (l.drop (i + 1)).all p) := by
  rw [List.drop_eq_getElem_cons h, List.all_cons, List.getD_eq_getElem?_getD, List.getElem?_eq_getElem h]; rfl
theorem drop_all {α : Type} (p : α → Bool) (l : List α) (i : Nat) (h : l.length ≤ i) : (l.drop i).all p = true := by rw [List.drop_eq_nil_of_le h]; rfl
theorem getD_mem {α : Type} [Inhabited α] (l : List α) (i : Nat) (h : i < l.length) : l.getD i default ∈ l := by
  rw [List.getD_eq_getElem?_getD, List.getElem?_eq_getElem h]; exact List.getElem_mem h
def rI (n : Int) : List (List Lf × List D) := [([Lf.int IntKind.i64], [D.int IntKind.i64 n])]
theorem L84 (k n : Nat) (x : Int) (l : List T) (n2 : Nat) (z : Int) (hl : l.length ≤ 1000000)
    (hΓ : ∀ t ∈ l, Ak k 68 [t.v, V.one (X.ptr 0 0)] (rI x) = some (Out.mk true (bV (!deepT n t)) .junk [[D.int IntKind.i64 x]] 0)) :
    ∀ (m i : Nat), l.length - i < m → ∃ j : Int, l84_0 m (Ak k) n2 z (T.rows l) (Int.ofNat l.length) (Int.ofNat i) x = some (Out.mk true (iV j) .junk [[D.int IntKind.i64 x]] 0) ∧ decide (j ≥ 0) = !(l.drop i).all (deepT n) := by
  intro m
  induction m with
  | zero => intro i h; omega
  | succ m ih =>
    intro i h
    rw [l84_0_eq]
    by_cases hi : i < l.length
    · rw [lt_yes i _ hi, cond_true, q84_0_eq, T.rows_len, in_range i _ hi, cond_true, tn, T.rows_at l i hi, getD0, getD1]
      have := hΓ (l.getD i default) (getD_mem l i hi)
      unfold T.v rI at this
      rw [this]
      simp only [Option.bind_some, getD0, getD1, getD2, isInt_i, Bool.and_true, Bool.true_and, Bool.and_self, cond_true, cond_false, len_1, len_2, len_3, isOne1, isTup2, isTup3, isAgg2, isAgg3, comp0, comp1, comp2, cell1, cella0, cella1, cella2, isD_d, dd_d, isBool_b, bit_b, num_i, isStr_s, bytes_s, isList_2, isList_3, rows_l, nb_0]
      cases hd : deepT n (l.getD i default) with
      | false =>
        refine ⟨(i : Int), rfl, ?_⟩
        rw [all_drop _ l i hi, hd]
        simp
      | true =>
        obtain ⟨j, h1, h2⟩ := ih (i + 1) (by omega)
        refine ⟨j, ?_, ?_⟩
        · rw [q84_1_eq, wrap_up i (by omega)]
          exact h1
        · rw [h2, all_drop _ l i hi, hd, Bool.true_and]
    · refine ⟨-1, ?_, ?_⟩
      · rw [lt_no i _ (by omega), cond_false, q84_2_eq]
      · rw [drop_all _ l i (by omega)]; rfl
theorem ofNat_eqb (a b : Nat) : (Int.ofNat a == Int.ofNat b) = decide (a = b) := by
  rw [Bool.eq_iff_iff, decide_eq_true_iff, beq_iff_eq]
  exact ⟨Int.ofNat.inj, fun h => by rw [h]⟩
theorem C45 : ∀ (n k : Nat) (t : T), n ≤ 1000 → 5 * n + 10 ≤ k → Ak k 45 [t.v, iV n] [] = some (R (bV (deepT n t)))
  | n, 0, t, _, h => by omega
  | 0, k + 1, t, _, _ => by
    refine (call45 k t.k (T.rows t.l) 0).trans ?_
    rw [e45_eq]
    rfl
  | n + 1, k + 1, t, hn, hk => by
    refine (call45 k t.k (T.rows t.l) (n + 1 : Nat)).trans ?_
    obtain ⟨κ, l⟩ := t
    rw [e45_eq, decide_eq_false (by omega), cond_false, q45_0_eq]
    simp only [T.k, T.l]
    have go : ∀ b : Bool, q45_1 (Ak k) k κ b κ (T.rows l) (n + 1 : Nat) = some (R (bV (bif b then l.isEmpty else if κ = 3 then decide (2 ≤ l.length) && decide (l.length ≤ 4) && l.all (deepT n) else if κ = 4 then decide (l.length = 1) && l.all (deepT n) else false))) := by
      intro b
      rw [q45_1_eq, T.rows_len]
      cases b with
      | true =>
        rw [cond_true, cond_true]
        refine retB ?_
        cases l <;> simp
        omega
      | false =>
        rw [cond_false, cond_false]
        have last : l.length ≤ 4 → q45_2 (Ak k) k κ (T.rows l) (n + 1 : Nat) = some (R (bV (l.all (deepT n)))) := by
          intro h4
          obtain ⟨k3, rfl⟩ : ∃ k3, k = k3 + 3 := ⟨k - 3, by omega⟩
          have h68 : ∀ t ∈ l, Ak (k3 + 1) 68 [t.v, V.one (X.ptr 0 0)] (rI (n + 1 : Nat)) = some (Out.mk true (bV (!deepT n t)) .junk [[D.int IntKind.i64 (n + 1 : Nat)]] 0) := fun t ht => by
            refine (call68 k3 t.k (T.rows t.l) (n + 1 : Nat)).trans ?_
            rw [e68_eq, wrap_in _ (by omega) (by omega)]
            have e : ((n + 1 : Nat) : Int) - 1 = (n : Int) := by omega
            rw [e]
            have := C45 n k3 t (by omega) (by omega)
            unfold T.v at this
            rw [this, g_oB]
          obtain ⟨j, h1, h2⟩ := L84 (k3 + 1) n (n + 1 : Nat) l (k3 + 1) (n + 1 : Nat) (by omega) h68 (k3 + 1) 0 (by omega)
          have h84 : Ak (k3 + 2) 84 [V.one (X.d (D.list 2 (T.rows l))), V.one (X.fn 68 [X.ptr 0 0])] (rI (n + 1 : Nat)) = some (Out.mk true (iV j) .junk [[D.int IntKind.i64 (n + 1 : Nat)]] 0) := by
            refine (call84 (k3 + 1) (T.rows l) (n + 1 : Nat)).trans ?_
            rw [e84_eq, T.rows_len]
            exact h1
          have h67 : Ak (k3 + 3) 67 [V.one (X.d (D.list 2 (T.rows l))), V.one (X.fn 68 [X.ptr 0 0])] (rI (n + 1 : Nat)) = some (Out.mk true (bV (!l.all (deepT n))) .junk [[D.int IntKind.i64 (n + 1 : Nat)]] 0) := by
            refine (call67 (k3 + 2) (T.rows l) (n + 1 : Nat)).trans ?_
            unfold rI at h84
            rw [e67_eq, h84]
            refine Eq.trans (b := some (Out.mk true (bV (decide (j ≥ 0))) D.junk [[D.int IntKind.i64 (n + 1 : Nat)]] 0)) rfl ?_
            rw [h2, List.drop_zero]
          unfold rI at h67
          rw [q45_2_eq, h67]
          simp only [Option.bind_some, getD0, getD1, getD2, isInt_i, Bool.and_true, Bool.true_and, Bool.and_self, cond_true, cond_false, len_1, len_2, len_3, isOne1, isTup2, isTup3, isAgg2, isAgg3, comp0, comp1, comp2, cell1, cella0, cella1, cella2, isD_d, dd_d, isBool_b, bit_b, num_i, isStr_s, bytes_s, isList_2, isList_3, rows_l, nb_0, Bool.not_not]
        by_cases h3 : κ = 3
        · subst h3
          rw [if_pos rfl]
          show (bif decide (Int.ofNat l.length < 2) then _ else _) = _
          by_cases h2 : 2 ≤ l.length
          · rw [decide_eq_false (by simp only [Int.ofNat_eq_natCast]; omega), cond_false]
            by_cases h4 : l.length ≤ 4
            · rw [decide_eq_false (by simp only [Int.ofNat_eq_natCast]; omega), cond_false, last h4]
              simp [h2, h4]
            · rw [decide_eq_true (by simp only [Int.ofNat_eq_natCast]; omega), cond_true]
              simp [h4]
          · rw [decide_eq_true (by simp only [Int.ofNat_eq_natCast]; omega), cond_true]
            simp [h2]
        · rw [if_neg h3]
          have e3 : (κ == 3) = false := by simp [h3]
          rw [e3, cond_false]
          by_cases h4 : κ = 4
          · subst h4
            rw [if_pos rfl]
            show (bif Int.ofNat l.length != 1 then _ else _) = _
            by_cases h1 : l.length = 1
            · rw [h1, last (by omega)]
              simp
            · have : (Int.ofNat l.length != 1) = true := by simp; omega
              rw [this, cond_true]
              simp [h1]
          · have e4 : (κ == 4) = false := by simp [h4]
            rw [e4, cond_false, if_neg h4]
    unfold deepT
    by_cases h1 : κ = 1
    · subst h1
      show (bif true then _ else _) = _
      rw [cond_true, go]
      simp
    · have e1 : (κ == 1) = false := by simp [h1]
      rw [e1, cond_false, go]
      by_cases h2 : κ = 2
      · subst h2; simp
      · have e2 : (κ == 2) = false := by simp [h2]
        rw [e2, cond_false, if_neg (show ¬ (κ = 1 ∨ κ = 2) by omega)]
theorem C16 (k : Nat) (hk : 220 ≤ k) (t : T) : Ak k 16 [t.v] [] = some (R (bV (deepT 40 t))) := by
  obtain ⟨k, rfl⟩ : ∃ k', k = k' + 1 := ⟨k - 1, by omega⟩
  refine (call16 k t.k (T.rows t.l)).trans ?_
  have := C45 40 k t (by omega) (by omega)
  unfold T.v at this
  rw [e16_eq]
  show r_oB (Ak k 45 [_, V.one (X.d (D.int IntKind.i64 ((40 : Nat) : Int)))] []) _ _ = _
  rw [this, g_oB]
/-! ### the reference's -/
theorem L46 (k n : Nat) (x κ : Int) (l : List T) (n2 : Nat) (hl : l.length ≤ 4) (hx : x = 41 - (n + 1 : Nat)) (hn : n ≤ 1000)
    (hΓ : ∀ t ∈ l, Ak k 46 [t.v, iV (x + 1)] [] = some (R (bV (deepT n t)))) :
    ∀ (m i : Nat), l.length - i < m → l46_0 m (Ak k) n2 x (Int.ofNat l.length) (Int.ofNat i) κ (T.rows l) = some (R (bV ((l.drop i).all (deepT n)))) := by
  intro m
  induction m with
  | zero => intro i h; omega
  | succ m ih =>
    intro i h
    rw [l46_0_eq]
    by_cases hi : i < l.length
    · have := hΓ (l.getD i default) (getD_mem l i hi)
      unfold T.v at this
      rw [lt_yes i _ hi, cond_true, q46_1_eq, T.rows_len, in_range i _ hi, cond_true, tn, T.rows_at l i hi, getD0, getD1, wrap_in _ (by omega) (by omega), this, g_oB, all_drop _ l i hi]
      cases hd : deepT n (l.getD i default) with
      | false => rfl
      | true =>
        rw [Bool.true_and, ← ih (i + 1) (by omega), Bool.not_true, cond_false, q46_2_eq, wrap_up i (by omega)]
    · rw [lt_no i _ (by omega), cond_false, q46_3_eq, drop_all _ l i (by omega)]
theorem C46 : ∀ (n k : Nat) (t : T), n ≤ 40 → n + 8 ≤ k → Ak k 46 [t.v, iV (41 - n : Int)] [] = some (R (bV (deepT n t)))
  | n, 0, t, _, h => by omega
  | n, k + 1, t, hn, hk => by
    refine (call46 k t.k (T.rows t.l) (41 - n : Int)).trans ?_
    obtain ⟨κ, l⟩ := t
    rw [e46_eq]
    simp only [T.k, T.l, T.rows_len]
    have go : l.length ≤ 4 → (bif decide ((41 - (n : Int)) > 40) then some (R (bV false)) else q46_0 (Ak k) k (41 - n : Int) (Int.ofNat l.length) κ (T.rows l)) = some (R (bV (decide (1 ≤ n) && l.all (deepT (n - 1))))) := by
      intro h4
      cases n with
      | zero => rfl
      | succ n =>
        rw [decide_eq_false (by omega), cond_false, q46_0_eq]
        rw [show l.all (deepT (n + 1 - 1)) = (l.drop 0).all (deepT n) by rw [List.drop_zero]; rfl]
        refine (L46 k n _ κ l k h4 rfl (by omega) (fun t ht => ?_) k 0 (by omega)).trans ?_
        · have e : (41 : Int) - (n + 1 : Nat) + 1 = 41 - n := by omega
          rw [e]
          exact C46 n k t (by omega) (by omega)
        · simp
    unfold R at go
    have deep0 : deepT n (.mk κ l) = (if κ = 1 ∨ κ = 2 then decide (1 ≤ n) && l.isEmpty else if κ = 3 then decide (2 ≤ l.length) && decide (l.length ≤ 4) && (decide (1 ≤ n) && l.all (deepT (n - 1))) else if κ = 4 then decide (l.length = 1) && (decide (1 ≤ n) && l.all (deepT (n - 1))) else false) := by
      cases n with
      | zero => unfold deepT; simp
      | succ n => rw [deepT]; simp
    rw [deep0]
    by_cases h1 : κ = 1
    · subst h1
      cases l with
      | nil =>
        have := go (by simp)
        simp only [List.length_nil, List.all_nil, Bool.and_true] at this
        simpa using this
      | cons a r =>
        have e : ((Int.ofNat (a :: r).length) == 0) = false := by simp; omega
        refine Eq.trans (b := some (R (bV false))) rfl ?_
        simp
    · by_cases h2 : κ = 2
      · subst h2
        cases l with
        | nil =>
          have := go (by simp)
          simp only [List.length_nil, List.all_nil, Bool.and_true] at this
          simpa using this
        | cons a r =>
          have e : ((Int.ofNat (a :: r).length) == 0) = false := by simp; omega
          refine Eq.trans (b := some (R (bV false))) rfl ?_
          simp
      · have e1 : (κ == 1) = false := by simp [h1]
        have e2 : (κ == 2) = false := by simp [h2]
        rw [e1, e2, cond_false, cond_false, if_neg (show ¬ (κ = 1 ∨ κ = 2) by omega)]
        by_cases h3 : κ = 3
        · subst h3
          show (bif decide (Int.ofNat l.length ≥ 2) then _ else _) = _
          rw [if_pos rfl]
          by_cases h2 : 2 ≤ l.length
          · rw [decide_eq_true (by simp only [Int.ofNat_eq_natCast]; omega), cond_true]
            by_cases h4 : l.length ≤ 4
            · rw [decide_eq_true (by simp only [Int.ofNat_eq_natCast]; omega), cond_true, go h4]
              simp [h2, h4]
            · rw [decide_eq_false (by simp only [Int.ofNat_eq_natCast]; omega), cond_false]
              simp [h4]
          · rw [decide_eq_false (by simp only [Int.ofNat_eq_natCast]; omega), cond_false]
            simp [h2]
        · have e3 : (κ == 3) = false := by simp [h3]
          rw [e3, cond_false, if_neg h3]
          by_cases h4 : κ = 4
          · subst h4
            rw [if_pos rfl]
            show (bif !Int.ofNat l.length == 1 then _ else _) = _
            by_cases h1 : l.length = 1
            · have e : (Int.ofNat l.length == 1) = true := by rw [h1]; rfl
              rw [e, Bool.not_true, cond_false, go (by omega)]
              simp [h1]
            · have e : (Int.ofNat l.length == 1) = false := by simp; omega
              rw [e, Bool.not_false, cond_true]
              simp [h1]
          · have e4 : (κ == 4) = false := by simp [h4]
            rw [e4, cond_false, if_neg h4]
termination_by n => n
theorem C17 (k : Nat) (hk : 220 ≤ k) (t : T) : Ak k 17 [t.v] [] = some (R (bV (deepT 40 t))) := by
  obtain ⟨k, rfl⟩ : ∃ k', k = k' + 1 := ⟨k - 1, by omega⟩
  refine (call17 k t.k (T.rows t.l)).trans ?_
  have := C46 40 k t (by omega) (by omega)
  unfold T.v at this
  rw [e17_eq]
  show r_oB (Ak k 46 [_, V.one (X.d (D.int IntKind.i64 ((41 : Int) - ((40 : Nat) : Int))))] []) _ _ = _
  rw [this, g_oB]
end Go.Proofs.YtkpdofiflhjahaaDoor.Ps
