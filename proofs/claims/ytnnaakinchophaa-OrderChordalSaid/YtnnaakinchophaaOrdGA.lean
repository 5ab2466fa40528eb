/- Eliminating a variable, told bit by bit; ways through what is eliminated; plain masks; conditions as written. -/
import Derived.Test.YtnnaakinchophaaOrdT
namespace Go.Proofs.Ytnnaakinchophaa.Ord
set_option linter.unusedVariables false
set_option linter.unusedSimpArgs false
open Go.RowKit Go.Proofs.YtnnaakinchophaaW.PrintWords Go.Proofs.YtnnaakinchophaaW.PrintLast Go.Proofs.YtnnaakinchophaaW.PrintMore
/-- A graph of N variables as masks. -/
structure Gr (N : Nat) (H : Nat → Nat) : Prop where
  sym : ∀ i j, (H i).testBit j = true → (H j).testBit i = true
  irr : ∀ i, (H i).testBit i = false
  bnd : ∀ i j, (H i).testBit j = true → j < N
theorem Gr.bndl {N : Nat} {H : Nat → Nat} (h : Gr N H) {i j : Nat} (hb : (H i).testBit j = true) : i < N := h.bnd j i (h.sym i j hb)
theorem Gr.lt {N : Nat} {H : Nat → Nat} (h : Gr N H) (hN : N ≤ 16) (i : Nat) : H i < 65536 := by
  show H i < 2 ^ 16
  refine Nat.lt_pow_two_of_testBit _ (fun j hj => ?_)
  cases hb : (H i).testBit j with
  | false => rfl
  | true => have := h.bnd i j hb; omega
theorem masks_ext {H K : Nat → Nat} (h : ∀ i j, (H i).testBit j = true ↔ (K i).testBit j = true) : H = K := by
  funext i
  apply Nat.eq_of_testBit_eq
  intro j
  rw [Bool.eq_iff_iff]
  exact h i j
theorem add1_bit (H : Nat → Nat) (a b i j : Nat) : (up (up H a (sb (H a) b)) b (sb (up H a (sb (H a) b) b) a) i).testBit j = true ↔ (H i).testBit j = true ∨ (i = a ∧ j = b) ∨ (i = b ∧ j = a) := by
  unfold up
  by_cases h1 : i = b
  · rw [if_pos h1, sb_bit]
    subst h1
    by_cases h2 : i = a
    · rw [if_pos h2, sb_bit]
      subst h2
      simp
    · rw [if_neg h2]
      simp [h2]
  · rw [if_neg h1]
    by_cases h2 : i = a
    · rw [if_pos h2, sb_bit]
      subst h2
      simp [h1]
    · rw [if_neg h2]
      simp [h1, h2]
theorem pr_eq {a b c d : Nat} : pr a b = pr c d ↔ a = c ∧ b = d := by
  unfold pr
  rw [Prod.mk.injEq]
  omega
theorem addL_bit : ∀ (ps : List (Int × Int)) (H : Nat → Nat) (i j : Nat), (∀ p ∈ ps, ∃ a b : Nat, p = pr a b) → ((addL H ps i).testBit j = true ↔ (H i).testBit j = true ∨ pr i j ∈ ps ∨ pr j i ∈ ps)
  | [], H, i, j, _ => by simp [addL]
  | p :: r, H, i, j, hp => by
    obtain ⟨a, b, rfl⟩ := hp p List.mem_cons_self
    have ih := addL_bit r (up (up H a (sb (H a) b)) b (sb (up H a (sb (H a) b) b) a)) i j (fun q hq => hp q (List.mem_cons_of_mem _ hq))
    show (addL (up (up H a (sb (H a) b)) b (sb (up H a (sb (H a) b) b) a)) r i).testBit j = true ↔ _
    rw [ih, add1_bit, List.mem_cons, List.mem_cons, pr_eq, pr_eq]
    constructor
    · rintro ((h | h | h) | h | h)
      · exact Or.inl h
      · exact Or.inr (Or.inl (Or.inl h))
      · exact Or.inr (Or.inr (Or.inl ⟨h.2, h.1⟩))
      · exact Or.inr (Or.inl (Or.inr h))
      · exact Or.inr (Or.inr (Or.inr h))
    · rintro (h | (h | h) | (h | h))
      · exact Or.inl (Or.inl h)
      · exact Or.inl (Or.inr (Or.inl h))
      · exact Or.inr (Or.inl h)
      · exact Or.inl (Or.inr (Or.inr ⟨h.2, h.1⟩))
      · exact Or.inr (Or.inr h)
theorem mis_iff {H : Nat → Nat} {v a b : Nat} : pr a b ∈ mis H v ↔ a < b ∧ b < 16 ∧ (H v).testBit a = true ∧ (H v).testBit b = true ∧ (H a).testBit b = false := by
  constructor
  · intro h
    obtain ⟨c, d, h1, h2, h3, h4, h5, h6⟩ := mis_mem h
    obtain ⟨rfl, rfl⟩ := pr_eq.1 h3
    exact ⟨h1, h2, h4, h5, h6⟩
  · rintro ⟨h1, h2, h3, h4, h5⟩
    unfold mis misA
    refine List.mem_flatMap.2 ⟨a, List.mem_range'_1.2 ⟨by omega, by omega⟩, ?_⟩
    rw [if_pos h3]
    unfold misB
    exact List.mem_map.2 ⟨b, List.mem_filter.2 ⟨List.mem_range'_1.2 ⟨by omega, by omega⟩, by rw [h4, h5]; rfl⟩, rfl⟩
theorem mis_pr {H : Nat → Nat} {v : Nat} : ∀ p ∈ mis H v, ∃ a b : Nat, p = pr a b := fun p hp => by
  obtain ⟨a, b, _, _, h, _⟩ := mis_mem hp
  exact ⟨a, b, h⟩
/-- What eliminating v leaves. -/
theorem elim_bit {N : Nat} {H : Nat → Nat} (h : Gr N H) (hN : N ≤ 16) (v i j : Nat) : (elimF H v i).testBit j = true ↔ i ≠ v ∧ j ≠ v ∧ ((H i).testBit j = true ∨ (i ≠ j ∧ (H v).testBit i = true ∧ (H v).testBit j = true)) := by
  by_cases hj : j < 16
  · by_cases hi : i < 16
    · unfold elimF
      rw [cutF_bit _ v i j hi hj]
      simp only [Bool.and_eq_true, Bool.not_eq_true', decide_eq_false_iff_not]
      rw [addL_bit _ _ _ _ mis_pr, mis_iff, mis_iff]
      constructor
      · rintro ⟨h1, h2, h3⟩
        refine ⟨h2, h3, ?_⟩
        rcases h1 with h1 | h1 | h1
        · exact Or.inl h1
        · exact Or.inr ⟨by omega, h1.2.2.1, h1.2.2.2.1⟩
        · exact Or.inr ⟨by omega, h1.2.2.2.1, h1.2.2.1⟩
      · rintro ⟨h1, h2, h3⟩
        refine ⟨?_, h1, h2⟩
        rcases h3 with h3 | ⟨h3, h4, h5⟩
        · exact Or.inl h3
        · cases hb : (H i).testBit j with
          | true => exact Or.inl rfl
          | false =>
            right
            rcases Nat.lt_or_ge i j with hlt | hge
            · exact Or.inl ⟨hlt, hj, h4, h5, by first | exact hb | rfl⟩
            · refine Or.inr ⟨by omega, hi, h5, h4, ?_⟩
              cases hb2 : (H j).testBit i with
              | false => rfl
              | true => rw [h.sym j i hb2] at hb; cases hb
    · constructor
      · intro hb
        unfold elimF cutF up cutG at hb
        by_cases e : i = v
        · rw [if_pos e, Nat.zero_testBit] at hb; cases hb
        · rw [if_neg e, if_neg hi, addL_bit _ _ _ _ mis_pr, mis_iff, mis_iff] at hb
          rcases hb with hb | hb | hb
          · have := h.bndl hb; omega
          · omega
          · omega
      · rintro ⟨_, _, h3 | ⟨_, h4, _⟩⟩
        · have := h.bndl h3; omega
        · have := h.bnd v i h4; omega
  · constructor
    · intro hb
      have := bit16 (elimF_lt (h.lt hN) v i) hb
      omega
    · rintro ⟨_, _, h3 | ⟨_, _, h4⟩⟩
      · have := h.bnd i j h3; omega
      · have := h.bnd v j h4; omega
theorem Gr.elim {N : Nat} {H : Nat → Nat} (h : Gr N H) (hN : N ≤ 16) (v : Nat) : Gr N (elimF H v) where
  sym := fun i j hb => by
    rw [elim_bit h hN] at hb ⊢
    obtain ⟨h1, h2, h3⟩ := hb
    refine ⟨h2, h1, ?_⟩
    rcases h3 with h3 | ⟨h3, h4, h5⟩
    · exact Or.inl (h.sym i j h3)
    · exact Or.inr ⟨fun e => h3 e.symm, h5, h4⟩
  irr := fun i => by
    cases hb : (elimF H v i).testBit i with
    | false => rfl
    | true =>
      rw [elim_bit h hN] at hb
      rcases hb.2.2 with h3 | h3
      · rw [h.irr] at h3; cases h3
      · exact absurd rfl h3.1
  bnd := fun i j hb => by
    rw [elim_bit h hN] at hb
    rcases hb.2.2 with h3 | h3
    · exact h.bnd i j h3
    · exact h.bnd v j h3.2.2
/-! The graph of scopes. -/
theorem of3_bit (a : Nat) : ∀ (x : List Int) (G : Nat → Nat) (i j : Nat), (∀ b ∈ x, 0 ≤ b) → ((of3 G (a : Int) x i).testBit j = true ↔ (G i).testBit j = true ∨ (i = a ∧ j ≠ a ∧ (j : Int) ∈ x))
  | [], G, i, j, _ => by simp [of3]
  | b :: r, G, i, j, hx => by
    obtain ⟨b, rfl⟩ := Int.eq_ofNat_of_zero_le (hx b List.mem_cons_self)
    unfold of3
    rw [of3_bit a r _ i j (fun c hc => hx c (List.mem_cons_of_mem _ hc)), List.mem_cons]
    by_cases e : a = b
    · subst e
      rw [if_pos rfl]
      constructor
      · rintro (h | ⟨h1, h2, h3⟩)
        · exact Or.inl h
        · exact Or.inr ⟨h1, h2, Or.inr h3⟩
      · rintro (h | ⟨h1, h2, h3 | h3⟩)
        · exact Or.inl h
        · omega
        · exact Or.inr ⟨h1, h2, h3⟩
    · rw [if_neg (by omega), Int.toNat_natCast, Int.toNat_natCast]
      unfold up
      by_cases hi : i = a
      · rw [if_pos hi, sb_bit]
        subst hi
        simp only [Bool.or_eq_true, decide_eq_true_eq]
        constructor
        · rintro ((h | h) | ⟨h1, h2, h3⟩)
          · exact Or.inl h
          · exact Or.inr ⟨trivial, by omega, Or.inl (by omega)⟩
          · exact Or.inr ⟨trivial, h2, Or.inr h3⟩
        · rintro (h | ⟨h1, h2, h3 | h3⟩)
          · exact Or.inl (Or.inl h)
          · exact Or.inl (Or.inr (by omega))
          · exact Or.inr ⟨trivial, h2, h3⟩
      · rw [if_neg hi]
        simp [hi]
theorem of2_bit (x : List Int) (hx : ∀ b ∈ x, 0 ≤ b) : ∀ (y : List Int) (G : Nat → Nat) (i j : Nat), (∀ b ∈ y, 0 ≤ b) → ((of2 G x y i).testBit j = true ↔ (G i).testBit j = true ∨ (i ≠ j ∧ (i : Int) ∈ y ∧ (j : Int) ∈ x))
  | [], G, i, j, _ => by simp [of2]
  | a :: r, G, i, j, hy => by
    obtain ⟨a, rfl⟩ := Int.eq_ofNat_of_zero_le (hy a List.mem_cons_self)
    unfold of2
    rw [of2_bit x hx r _ i j (fun c hc => hy c (List.mem_cons_of_mem _ hc)), of3_bit a x G i j hx, List.mem_cons]
    constructor
    · rintro ((h | ⟨h1, h2, h3⟩) | ⟨h1, h2, h3⟩)
      · exact Or.inl h
      · exact Or.inr ⟨by omega, Or.inl (by omega), h3⟩
      · exact Or.inr ⟨h1, Or.inr h2, h3⟩
    · rintro (h | ⟨h1, h2 | h2, h3⟩)
      · exact Or.inl (Or.inl h)
      · exact Or.inl (Or.inr ⟨by omega, by omega, h3⟩)
      · exact Or.inr ⟨h1, h2, h3⟩
theorem of1_bit : ∀ (l : List (List Int)) (G : Nat → Nat) (i j : Nat), (∀ x ∈ l, ∀ b ∈ x, 0 ≤ b) → ((of1 G l i).testBit j = true ↔ (G i).testBit j = true ∨ (i ≠ j ∧ ∃ x ∈ l, (i : Int) ∈ x ∧ (j : Int) ∈ x))
  | [], G, i, j, _ => by simp [of1]
  | x :: r, G, i, j, hl => by
    have hx := hl x List.mem_cons_self
    unfold of1
    rw [of1_bit r _ i j (fun y hy => hl y (List.mem_cons_of_mem _ hy)), of2_bit x hx x G i j hx]
    constructor
    · rintro ((h | ⟨h1, h2, h3⟩) | ⟨h1, y, hy, h2, h3⟩)
      · exact Or.inl h
      · exact Or.inr ⟨h1, x, List.mem_cons_self, h2, h3⟩
      · exact Or.inr ⟨h1, y, List.mem_cons_of_mem _ hy, h2, h3⟩
    · rintro (h | ⟨h1, y, hy, h2, h3⟩)
      · exact Or.inl (Or.inl h)
      · rcases List.mem_cons.1 hy with rfl | hy
        · exact Or.inl (Or.inr ⟨h1, h2, h3⟩)
        · exact Or.inr ⟨h1, y, hy, h2, h3⟩
/-- Two variables are neighbors just if a scope has both. -/
theorem ofG_bit {l : List (List Int)} (hl : ∀ x ∈ l, ∀ b ∈ x, 0 ≤ b) (i j : Nat) : (ofG l i).testBit j = true ↔ i ≠ j ∧ ∃ x ∈ l, (i : Int) ∈ x ∧ (j : Int) ∈ x := by
  unfold ofG
  rw [of1_bit l _ i j hl, Nat.zero_testBit]
  simp
theorem ofG_gr {N : Nat} {l : List (List Int)} (hl : ∀ x ∈ l, ∀ b ∈ x, 0 ≤ b ∧ b < (N : Int)) : Gr N (ofG l) where
  sym := fun i j hb => by
    rw [ofG_bit (fun x hx b hb => (hl x hx b hb).1)] at hb ⊢
    obtain ⟨h1, x, hx, h2, h3⟩ := hb
    exact ⟨fun e => h1 e.symm, x, hx, h3, h2⟩
  irr := fun i => by
    cases hb : (ofG l i).testBit i with
    | false => rfl
    | true =>
      rw [ofG_bit (fun x hx b hb => (hl x hx b hb).1)] at hb
      exact absurd rfl hb.1
  bnd := fun i j hb => by
    rw [ofG_bit (fun x hx b hb => (hl x hx b hb).1)] at hb
    obtain ⟨h1, x, hx, h2, h3⟩ := hb
    have := hl x hx _ h3
    omega
end Go.Proofs.Ytnnaakinchophaa.Ord
