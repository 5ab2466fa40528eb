/- OrderLong: Best of paths, cycles, stars and cliques is the least order of minimum width, and this width; for every two numbers; no condition. -/
import Derived.Test.YtnnaakinchophaaXA4
import Derived.Test.YtnnaakinchophaaOrdI
namespace Go.Proofs.Ytnnaakinchophaa.Pure
open Go.RowKit Go.Proofs.Ytnnaakinchophaa.XA Go.Proofs.Ytnnaakinchophaa.Ord Go.Proofs.YtnnaakinchophaaW.PrintWords Go.Proofs.YtnnaakinchophaaW.PrintLast
set_option linter.unusedVariables false

theorem w64 {x : Int} (h0 : -1000 ≤ x) (h1 : x ≤ 1000) : wrap64 x = x := by unfold wrap64; omega
theorem same_l (l : List Int) (hl : l.length ≤ 100) : ∀ (d k i : Nat), i + d = l.length → d < k → sortilegelaw27_same.l0 k l l (l.length : Int) (i : Int) = some true := by
  intro d
  induction d with
  | zero =>
    intro k i hi hk
    obtain ⟨k, rfl⟩ : ∃ m, k = m + 1 := ⟨k - 1, by omega⟩
    rw [sortilegelaw27_same.l0, if_neg (by omega)]
  | succ d ih =>
    intro k i hi hk
    obtain ⟨k, rfl⟩ : ∃ m, k = m + 1 := ⟨k - 1, by omega⟩
    rw [sortilegelaw27_same.l0, if_pos (by omega), if_pos (by omega), if_pos (by omega), if_pos (by omega), if_pos rfl, w64 (by omega) (by omega)]
    exact ih k (i + 1) (by omega) (by omega)
theorem same_self (l : List Int) (hl : l.length ≤ 100) (k : Nat) (hk : l.length < k) : sortilegelaw27_same.f k l l = some true := by
  unfold sortilegelaw27_same.f
  rw [if_pos rfl]
  exact same_l l hl l.length k 0 (by omega) hk
theorem alive_true : sortilegelaw27_alive.f = some true := by
  have h := best_okB 2 [[0, 1]] [0, 1] 1 (by decide) (by decide) (by decide +kernel)
  unfold sortilegelaw27_alive.f order_Best.f
  rw [show ((2 : Int)) = ((2 : Nat) : Int) from rfl, h]
  rfl
theorem rg_succ (i : Nat) : rg (i + 1) = rg i ++ [(i : Int)] := by
  unfold rg
  rw [List.range_succ, List.map_append]
  rfl
theorem rg_len (i : Nat) : (rg i).length = i := by simp [rg]
theorem sc_succ (kind i : Nat) : sc kind (i + 1) = sc kind i ++ scOf kind i := by
  unfold sc
  rw [List.range_succ, List.flatMap_append]
  simp
theorem sc_len (kind : Nat) : ∀ i, (sc kind i).length ≤ i
  | 0 => by simp [sc]
  | i + 1 => by
    rw [sc_succ, List.length_append]
    have := sc_len kind i
    have h2 : (scOf kind i).length ≤ 1 := by
      unfold scOf
      split
      · split
        · simp
        · split <;> simp
      · simp
    omega
theorem step (n kind i k : Nat) (hi : i < n) (hn : n ≤ 10) (hk : kind < 4) :
    sortilegelaw27_OrderLong.l0 (k + 2) (n : Int) (kind : Int) (sc kind i) (rg i) (rg i) (i : Int) = sortilegelaw27_OrderLong.l0 k (n : Int) (kind : Int) (sc kind (i + 1)) (rg (i + 1)) (rg (i + 1)) ((i + 1 : Nat) : Int) := by
  have hl := rg_len i
  have hs := sc_len kind i
  have e1 : wrap64 ((i : Int) + 1) = ((i + 1 : Nat) : Int) := w64 (by omega) (by omega)
  rw [sortilegelaw27_OrderLong.l0, if_pos (by omega), if_pos (by omega), Option.bind_some, if_pos (by omega), Option.bind_some, rg_succ, sc_succ]
  by_cases h0 : i = 0
  · subst h0
    rw [if_neg (by omega), sortilegelaw27_OrderLong.j1, if_neg (by simp), if_neg (by omega), e1]
    simp [scOf]
  · rw [if_pos (by omega), sortilegelaw27_OrderLong.j1]
    have hp : (0 : Nat) < i := by omega
    by_cases h1 : kind < 2
    · rw [decide_eq_true (by omega), if_pos rfl, if_pos (by omega), Option.bind_some, if_pos (by omega), if_neg (by omega), e1, w64 (by omega) (by omega)]
      have e : scOf kind i = [[(i : Int) - 1, (i : Int)]] := by unfold scOf; rw [if_pos hp, if_pos h1]
      rw [e]
    · rw [decide_eq_false (by omega), if_neg (by simp), if_pos (by omega)]
      by_cases h2 : kind = 2
      · subst h2
        rw [if_pos (by rfl), if_pos (by omega), e1]
        have e : scOf 2 i = [[(i : Int), 0]] := by unfold scOf; rw [if_pos hp, if_neg h1, if_pos rfl]
        rw [e]
      · rw [if_neg (by omega), e1]
        have e : scOf kind i = [] := by unfold scOf; rw [if_pos hp, if_neg h1, if_neg h2]
        rw [e, List.append_nil]
theorem steps (n kind : Nat) (hn : n ≤ 10) (hk : kind < 4) : ∀ (d k i : Nat), i + d = n → sortilegelaw27_OrderLong.l0 (k + 2 * d) (n : Int) (kind : Int) (sc kind i) (rg i) (rg i) (i : Int) = sortilegelaw27_OrderLong.l0 k (n : Int) (kind : Int) (sc kind n) (rg n) (rg n) (n : Int)
  | 0, k, i, h => by obtain rfl : i = n := by omega
                     rfl
  | d + 1, k, i, h => by
    rw [show k + 2 * (d + 1) = (k + 2 * d) + 2 by omega, step n kind i _ (by omega) hn hk]
    exact steps n kind hn hk d k (i + 1) (by omega)
theorem mnw (i : Nat) (hi : i < 10) : mn (wrap64 (((i + 1 : Nat) : Int) - 1)) 1 = ((min i 1 : Nat) : Int) := by
  rw [w64 (by omega) (by omega)]
  unfold mn
  split <;> omega
theorem fin_same (l : List Int) (hl : l.length ≤ 10) (k : Nat) (hk : 20 ≤ k) : ((sortilegelaw27_same.f k l l).bind fun t => if t = true then (sortilegelaw27_alive.f.bind fun t2 => some t2) else some false) = some true := by
  rw [same_self l (by omega) k (by omega), Option.bind_some, if_pos rfl, alive_true]
  rfl

theorem num_of (a : Int) (m : Int) (h0 : 0 < m) (h1 : m ≤ 100) : ∃ j : Nat, (j : Int) < m ∧ Int.tmod (wrap64 (Int.tmod a m + m)) m = (j : Int) := by
  have b1 := Int.tmod_lt_of_pos a h0
  have b2 := Int.lt_tmod_of_pos a h0
  have e : wrap64 (Int.tmod a m + m) = Int.tmod a m + m := w64 (by omega) (by omega)
  rw [e]
  have c1 := Int.tmod_lt_of_pos (Int.tmod a m + m) h0
  have c2 := Int.tmod_nonneg (a := Int.tmod a m + m) m (by omega)
  exact ⟨(Int.tmod (Int.tmod a m + m) m).toNat, by omega, by omega⟩
theorem rg_cast (i : Nat) : (List.range i).map Int.ofNat = rg i := rfl
theorem plain_end (i kind k : Nat) (hi : i < 10) (l : List (List Int)) (x7 : List Int) (h2 : ¬ kind = 2 ∨ ¬ 2 < i + 1) (h3 : ¬ kind = 3) (h1 : ¬ kind = 1 ∨ ¬ 2 < i + 1) (hk : 25 ≤ k)
    (E : bestF ((i + 1 : Nat) : Int) l = some (rg (i + 1), ((min i 1 : Nat) : Int), 0)) :
    sortilegelaw27_OrderLong.j2 (k + 2) ((i + 1 : Nat) : Int) (kind : Int) l (rg (i + 1)) x7 ((min i 1 : Nat) : Int) false = some true := by
  have hr := rg_len (i + 1)
  have hfin := fin_same (rg (i + 1)) (by omega) k (by omega)
  have e3 : sortilegelaw27_OrderLong.j3 (k + 1) ((i + 1 : Nat) : Int) (kind : Int) l (rg (i + 1)) x7 ((min i 1 : Nat) : Int) false = some true := by
    rw [sortilegelaw27_OrderLong.j3, if_neg (by simp), if_neg (by omega)]
    unfold order_Best.f
    rw [E, Option.bind_some, if_pos rfl, if_pos rfl]
    exact hfin
  rw [sortilegelaw27_OrderLong.j2, if_neg (by simp)]
  by_cases hk2 : kind = 2
  · rw [if_pos (by omega), decide_eq_false (by omega)]
    exact e3
  · rw [if_neg (by omega)]
    exact e3

theorem OrderLong : sortilegelaw27_OrderLong.Pure := by
  intro a0 a1 _ _
  obtain ⟨i, hi, ei⟩ := num_of a0 10 (by decide) (by decide)
  obtain ⟨kind, hk, ek⟩ := num_of a1 4 (by decide) (by decide)
  have hi' : i < 10 := by omega
  have hk' : kind < 4 := by omega
  have en : wrap64 (1 + (i : Int)) = ((i + 1 : Nat) : Int) := by rw [w64 (by omega) (by omega)]; omega
  have hall := List.all_eq_true.1 all40_true i (List.mem_range.2 hi')
  simp only [Bool.and_eq_true] at hall
  obtain ⟨⟨⟨hq0, hq1⟩, hq2⟩, hq3⟩ := hall
  refine ⟨(29 + 1) + 2 * (i + 1), ?_⟩
  unfold sortilegelaw27_OrderLong.f
  rw [ei, ek, en]
  have hs := steps (i + 1) kind (by omega) hk' (i + 1) (29 + 1) 0 (by omega)
  have z1 : sc kind 0 = [] := rfl
  have z2 : rg 0 = [] := rfl
  rw [z1, z2] at hs
  rw [show ((0 : Int)) = ((0 : Nat) : Int) from rfl, hs]
  have hr := rg_len (i + 1)
  have hsl := sc_len kind (i + 1)
  have hmn := mnw i hi'
  rw [sortilegelaw27_OrderLong.l0, if_neg (by omega), hmn]
  have hcase : kind = 0 ∨ kind = 1 ∨ kind = 2 ∨ kind = 3 := by omega
  have hw : wrap64 (((i + 1 : Nat) : Int) - 1) = (i : Int) := by rw [w64 (by omega) (by omega)]; omega
  rcases hcase with rfl | rfl | rfl | rfl
  · rw [if_neg (by omega)]
    exact plain_end i 0 27 hi' _ _ (Or.inl (by decide)) (by decide) (Or.inl (by decide)) (by decide) (best_okB (i + 1) _ _ _ (by omega) (by omega) hq0)
  · rw [if_pos (by rfl)]
    by_cases h2 : 2 < i + 1
    · rw [if_pos h2] at hq1
      have E := best_okB (i + 1) _ _ _ (by omega) (by omega) hq1
      rw [decide_eq_true (by omega), sortilegelaw27_OrderLong.j2, if_pos rfl, if_pos (by omega), hw]
      unfold order_Best.f
      rw [E, Option.bind_some, if_pos rfl]
      refine (if_pos rfl).trans ?_
      exact fin_same (rg (i + 1)) (by omega) 28 (by decide)
    · rw [if_neg h2] at hq1
      rw [decide_eq_false (by omega)]
      exact plain_end i 1 27 hi' _ _ (Or.inl (by decide)) (by decide) (Or.inr h2) (by decide) (best_okB (i + 1) _ _ _ (by omega) (by omega) hq1)
  · rw [if_neg (by omega)]
    by_cases h2 : 2 < i + 1
    · rw [if_pos h2] at hq2
      have E := best_okB (i + 1) _ _ _ (by omega) (by omega) hq2
      rw [sortilegelaw27_OrderLong.j2, if_neg (by simp), if_pos (by rfl), decide_eq_true (by omega), sortilegelaw27_OrderLong.j3, if_pos rfl, Option.bind_some, hw, if_pos (by omega), if_pos (by omega), Option.bind_some]
      have el : (((rg (i + 1)).take ((i : Int)).toNat).drop 1).length ≤ 10 := by
        rw [List.length_drop, List.length_take]
        omega
      rw [if_pos (by simp only [List.length_nil]; omega), Option.bind_some, List.nil_append, if_pos (by omega), Option.bind_some, if_pos (by simp only [List.length_append, List.length_cons, List.length_nil]; omega)]
      have ed : (((List.range (i + 1)).take i).drop 1 ++ [0] ++ [i]).map Int.ofNat = ((rg (i + 1)).take ((i : Int)).toNat).drop 1 ++ [0] ++ [(i : Int)] := by
        rw [List.map_append, List.map_append, List.map_drop, List.map_take, Int.toNat_natCast]
        rfl
      rw [ed] at E
      unfold order_Best.f
      rw [E, Option.bind_some, if_pos rfl, if_pos rfl]
      refine fin_same _ ?_ 27 (by decide)
      simp only [List.length_append, List.length_cons, List.length_nil, List.length_drop, List.length_take]
      omega
    · rw [if_neg h2] at hq2
      exact plain_end i 2 27 hi' _ _ (Or.inr h2) (by decide) (Or.inl (by decide)) (by decide) (best_okB (i + 1) _ _ _ (by omega) (by omega) hq2)
  · rw [if_neg (by omega)]
    have E := best_okB (i + 1) _ _ _ (by omega) (by omega) hq3
    rw [sortilegelaw27_OrderLong.j2, if_neg (by simp), if_neg (by omega), sortilegelaw27_OrderLong.j3, if_neg (by simp), if_pos (by rfl), if_pos (by omega), hw]
    unfold order_Best.f
    rw [E, Option.bind_some, if_pos rfl, if_pos rfl]
    exact fin_same (rg (i + 1)) (by omega) 27 (by decide)

end Go.Proofs.Ytnnaakinchophaa.Pure
