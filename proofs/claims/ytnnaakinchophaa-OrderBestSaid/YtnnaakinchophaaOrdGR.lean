/- Eliminating a variable, told bit by bit; ways through what is eliminated; plain masks; conditions as written. -/
import Derived.Test.YtnnaakinchophaaOrdT
namespace Go.Proofs.Ytnnaakinchophaa.Ord
section
set_option linter.unusedVariables false
set_option linter.unusedSimpArgs false
open Go.RowKit Go.Proofs.YtnnaakinchophaaW.PrintWords Go.Proofs.YtnnaakinchophaaW.PrintLast Go.Proofs.YtnnaakinchophaaW.PrintMore
/-- A graph of N variables as masks. -/
structure Gr (N : Nat) (H : Nat → Nat) : Prop where
  sym : ∀ i j, (H i).testBit j = true → (H j).testBit i = true
  irr : ∀ i, (H i).testBit i = false
  bnd : ∀ i j, (H i).testBit j = true → j < N
theorem Gr.bndl {N : Nat} {H : Nat → Nat} (h : Gr N H) {i j : Nat} (hb : (H i).testBit j = true) : i < N := h.bnd j i (h.sym i j hb)
theorem Gr.lt {N : Nat} {H : Nat → Nat} (h : Gr N H) (hN : N ≤ 16) (i : Nat) : H i < 65536 := by
  show H i < 2 ^ 16
  refine Nat.lt_pow_two_of_testBit _ (fun j hj => ?_)
  cases hb : (H i).testBit j with
  | false => rfl
  | true => have := h.bnd i j hb; omega
theorem masks_ext {H K : Nat → Nat} (h : ∀ i j, (H i).testBit j = true ↔ (K i).testBit j = true) : H = K := by
  funext i
  apply Nat.eq_of_testBit_eq
  intro j
  rw [Bool.eq_iff_iff]
  exact h i j
theorem add1_bit (H : Nat → Nat) (a b i j : Nat) : (up (up H a (sb (H a) b)) b (sb (up H a (sb (H a) b) b) a) i).testBit j = true ↔ (H i).testBit j = true ∨ (i = a ∧ j = b) ∨ (i = b ∧ j = a) := by
  unfold up
  by_cases h1 : i = b
  · rw [if_pos h1, sb_bit]
    subst h1
    by_cases h2 : i = a
    · rw [if_pos h2, sb_bit]
      subst h2
      simp
    · rw [if_neg h2]
      simp [h2]
  · rw [if_neg h1]
    by_cases h2 : i = a
    · rw [if_pos h2, sb_bit]
      subst h2
      simp [h1]
    · rw [if_neg h2]
      simp [h1, h2]
theorem pr_eq {a b c d : Nat} : pr a b = pr c d ↔ a = c ∧ b = d := by
  unfold pr
  rw [Prod.mk.injEq]
  omega
theorem addL_bit : ∀ (ps : List (Int × Int)) (H : Nat → Nat) (i j : Nat), (∀ p ∈ ps, ∃ a b : Nat, p = pr a b) → ((addL H ps i).testBit j = true ↔ (H i).testBit j = true ∨ pr i j ∈ ps ∨ pr j i ∈ ps)
  | [], H, i, j, _ => by simp [addL]
  | p :: r, H, i, j, hp => by
    obtain ⟨a, b, rfl⟩ := hp p List.mem_cons_self
    have ih := addL_bit r (up (up H a (sb (H a) b)) b (sb (up H a (sb (H a) b) b) a)) i j (fun q hq => hp q (List.mem_cons_of_mem _ hq))
    show (addL (up (up H a (sb (H a) b)) b (sb (up H a (sb (H a) b) b) a)) r i).testBit j = true ↔ _
    rw [ih, add1_bit, List.mem_cons, List.mem_cons, pr_eq, pr_eq]
    constructor
    · rintro ((h | h | h) | h | h)
      · exact Or.inl h
      · exact Or.inr (Or.inl (Or.inl h))
      · exact Or.inr (Or.inr (Or.inl ⟨h.2, h.1⟩))
      · exact Or.inr (Or.inl (Or.inr h))
      · exact Or.inr (Or.inr (Or.inr h))
    · rintro (h | (h | h) | (h | h))
      · exact Or.inl (Or.inl h)
      · exact Or.inl (Or.inr (Or.inl h))
      · exact Or.inr (Or.inl h)
      · exact Or.inl (Or.inr (Or.inr ⟨h.2, h.1⟩))
      · exact Or.inr (Or.inr h)
theorem mis_iff {H : Nat → Nat} {v a b : Nat} : pr a b ∈ mis H v ↔ a < b ∧ b < 16 ∧ (H v).testBit a = true ∧ (H v).testBit b = true ∧ (H a).testBit b = false := by
  constructor
  · intro h
    obtain ⟨c, d, h1, h2, h3, h4, h5, h6⟩ := mis_mem h
    obtain ⟨rfl, rfl⟩ := pr_eq.1 h3
    exact ⟨h1, h2, h4, h5, h6⟩
  · rintro ⟨h1, h2, h3, h4, h5⟩
    unfold mis misA
    refine List.mem_flatMap.2 ⟨a, List.mem_range'_1.2 ⟨by omega, by omega⟩, ?_⟩
    rw [if_pos h3]
    unfold misB
    exact List.mem_map.2 ⟨b, List.mem_filter.2 ⟨List.mem_range'_1.2 ⟨by omega, by omega⟩, by rw [h4, h5]; rfl⟩, rfl⟩
theorem mis_pr {H : Nat → Nat} {v : Nat} : ∀ p ∈ mis H v, ∃ a b : Nat, p = pr a b := fun p hp => by
  obtain ⟨a, b, _, _, h, _⟩ := mis_mem hp
  exact ⟨a, b, h⟩
/-- What eliminating v leaves. -/
theorem elim_bit {N : Nat} {H : Nat → Nat} (h : Gr N H) (hN : N ≤ 16) (v i j : Nat) : (elimF H v i).testBit j = true ↔ i ≠ v ∧ j ≠ v ∧ ((H i).testBit j = true ∨ (i ≠ j ∧ (H v).testBit i = true ∧ (H v).testBit j = true)) := by
  by_cases hj : j < 16
  · by_cases hi : i < 16
    · unfold elimF
      rw [cutF_bit _ v i j hi hj]
      simp only [Bool.and_eq_true, Bool.not_eq_true', decide_eq_false_iff_not]
      rw [addL_bit _ _ _ _ mis_pr, mis_iff, mis_iff]
      constructor
      · rintro ⟨h1, h2, h3⟩
        refine ⟨h2, h3, ?_⟩
        rcases h1 with h1 | h1 | h1
        · exact Or.inl h1
        · exact Or.inr ⟨by omega, h1.2.2.1, h1.2.2.2.1⟩
        · exact Or.inr ⟨by omega, h1.2.2.2.1, h1.2.2.1⟩
      · rintro ⟨h1, h2, h3⟩
        refine ⟨?_, h1, h2⟩
        rcases h3 with h3 | ⟨h3, h4, h5⟩
        · exact Or.inl h3
        · cases hb : (H i).testBit j with
          | true => exact Or.inl rfl
          | false =>
            right
            rcases Nat.lt_or_ge i j with hlt | hge
            · exact Or.inl ⟨hlt, hj, h4, h5, by first | exact hb | rfl⟩
            · refine Or.inr ⟨by omega, hi, h5, h4, ?_⟩
              cases hb2 : (H j).testBit i with
              | false => rfl
              | true => rw [h.sym j i hb2] at hb; cases hb
    · constructor
      · intro hb
        unfold elimF cutF up cutG at hb
        by_cases e : i = v
        · rw [if_pos e, Nat.zero_testBit] at hb; cases hb
        · rw [if_neg e, if_neg hi, addL_bit _ _ _ _ mis_pr, mis_iff, mis_iff] at hb
          rcases hb with hb | hb | hb
          · have := h.bndl hb; omega
          · omega
          · omega
      · rintro ⟨_, _, h3 | ⟨_, h4, _⟩⟩
        · have := h.bndl h3; omega
        · have := h.bnd v i h4; omega
  · constructor
    · intro hb
      have := bit16 (elimF_lt (h.lt hN) v i) hb
      omega
    · rintro ⟨_, _, h3 | ⟨_, _, h4⟩⟩
      · have := h.bnd i j h3; omega
      · have := h.bnd v j h4; omega
theorem Gr.elim {N : Nat} {H : Nat → Nat} (h : Gr N H) (hN : N ≤ 16) (v : Nat) : Gr N (elimF H v) where
  sym := fun i j hb => by
    rw [elim_bit h hN] at hb ⊢
    obtain ⟨h1, h2, h3⟩ := hb
    refine ⟨h2, h1, ?_⟩
    rcases h3 with h3 | ⟨h3, h4, h5⟩
    · exact Or.inl (h.sym i j h3)
    · exact Or.inr ⟨fun e => h3 e.symm, h5, h4⟩
  irr := fun i => by
    cases hb : (elimF H v i).testBit i with
    | false => rfl
    | true =>
      rw [elim_bit h hN] at hb
      rcases hb.2.2 with h3 | h3
      · rw [h.irr] at h3; cases h3
      · exact absurd rfl h3.1
  bnd := fun i j hb => by
    rw [elim_bit h hN] at hb
    rcases hb.2.2 with h3 | h3
    · exact h.bnd i j h3
    · exact h.bnd v j h3.2.2
/-! The graph of scopes. -/
theorem of3_bit (a : Nat) : ∀ (x : List Int) (G : Nat → Nat) (i j : Nat), (∀ b ∈ x, 0 ≤ b) → ((of3 G (a : Int) x i).testBit j = true ↔ (G i).testBit j = true ∨ (i = a ∧ j ≠ a ∧ (j : Int) ∈ x))
  | [], G, i, j, _ => by simp [of3]
  | b :: r, G, i, j, hx => by
    obtain ⟨b, rfl⟩ := Int.eq_ofNat_of_zero_le (hx b List.mem_cons_self)
    unfold of3
    rw [of3_bit a r _ i j (fun c hc => hx c (List.mem_cons_of_mem _ hc)), List.mem_cons]
    by_cases e : a = b
    · subst e
      rw [if_pos rfl]
      constructor
      · rintro (h | ⟨h1, h2, h3⟩)
        · exact Or.inl h
        · exact Or.inr ⟨h1, h2, Or.inr h3⟩
      · rintro (h | ⟨h1, h2, h3 | h3⟩)
        · exact Or.inl h
        · omega
        · exact Or.inr ⟨h1, h2, h3⟩
    · rw [if_neg (by omega), Int.toNat_natCast, Int.toNat_natCast]
      unfold up
      by_cases hi : i = a
      · rw [if_pos hi, sb_bit]
        subst hi
        simp only [Bool.or_eq_true, decide_eq_true_eq]
        constructor
        · rintro ((h | h) | ⟨h1, h2, h3⟩)
          · exact Or.inl h
          · exact Or.inr ⟨trivial, by omega, Or.inl (by omega)⟩
          · exact Or.inr ⟨trivial, h2, Or.inr h3⟩
        · rintro (h | ⟨h1, h2, h3 | h3⟩)
          · exact Or.inl (Or.inl h)
          · exact Or.inl (Or.inr (by omega))
          · exact Or.inr ⟨trivial, h2, h3⟩
      · rw [if_neg hi]
        simp [hi]
theorem of2_bit (x : List Int) (hx : ∀ b ∈ x, 0 ≤ b) : ∀ (y : List Int) (G : Nat → Nat) (i j : Nat), (∀ b ∈ y, 0 ≤ b) → ((of2 G x y i).testBit j = true ↔ (G i).testBit j = true ∨ (i ≠ j ∧ (i : Int) ∈ y ∧ (j : Int) ∈ x))
  | [], G, i, j, _ => by simp [of2]
  | a :: r, G, i, j, hy => by
    obtain ⟨a, rfl⟩ := Int.eq_ofNat_of_zero_le (hy a List.mem_cons_self)
    unfold of2
    rw [of2_bit x hx r _ i j (fun c hc => hy c (List.mem_cons_of_mem _ hc)), of3_bit a x G i j hx, List.mem_cons]
    constructor
    · rintro ((h | ⟨h1, h2, h3⟩) | ⟨h1, h2, h3⟩)
      · exact Or.inl h
      · exact Or.inr ⟨by omega, Or.inl (by omega), h3⟩
      · exact Or.inr ⟨h1, Or.inr h2, h3⟩
    · rintro (h | ⟨h1, h2 | h2, h3⟩)
      · exact Or.inl (Or.inl h)
      · exact Or.inl (Or.inr ⟨by omega, by omega, h3⟩)
      · exact Or.inr ⟨h1, h2, h3⟩
theorem of1_bit : ∀ (l : List (List Int)) (G : Nat → Nat) (i j : Nat), (∀ x ∈ l, ∀ b ∈ x, 0 ≤ b) → ((of1 G l i).testBit j = true ↔ (G i).testBit j = true ∨ (i ≠ j ∧ ∃ x ∈ l, (i : Int) ∈ x ∧ (j : Int) ∈ x))
  | [], G, i, j, _ => by simp [of1]
  | x :: r, G, i, j, hl => by
    have hx := hl x List.mem_cons_self
    unfold of1
    rw [of1_bit r _ i j (fun y hy => hl y (List.mem_cons_of_mem _ hy)), of2_bit x hx x G i j hx]
    constructor
    · rintro ((h | ⟨h1, h2, h3⟩) | ⟨h1, y, hy, h2, h3⟩)
      · exact Or.inl h
      · exact Or.inr ⟨h1, x, List.mem_cons_self, h2, h3⟩
      · exact Or.inr ⟨h1, y, List.mem_cons_of_mem _ hy, h2, h3⟩
    · rintro (h | ⟨h1, y, hy, h2, h3⟩)
      · exact Or.inl (Or.inl h)
      · rcases List.mem_cons.1 hy with rfl | hy
        · exact Or.inl (Or.inr ⟨h1, h2, h3⟩)
        · exact Or.inr ⟨h1, y, hy, h2, h3⟩
/-- Two variables are neighbors just if a scope has both. -/
theorem ofG_bit {l : List (List Int)} (hl : ∀ x ∈ l, ∀ b ∈ x, 0 ≤ b) (i j : Nat) : (ofG l i).testBit j = true ↔ i ≠ j ∧ ∃ x ∈ l, (i : Int) ∈ x ∧ (j : Int) ∈ x := by
  unfold ofG
  rw [of1_bit l _ i j hl, Nat.zero_testBit]
  simp
theorem ofG_gr {N : Nat} {l : List (List Int)} (hl : ∀ x ∈ l, ∀ b ∈ x, 0 ≤ b ∧ b < (N : Int)) : Gr N (ofG l) where
  sym := fun i j hb => by
    rw [ofG_bit (fun x hx b hb => (hl x hx b hb).1)] at hb ⊢
    obtain ⟨h1, x, hx, h2, h3⟩ := hb
    exact ⟨fun e => h1 e.symm, x, hx, h3, h2⟩
  irr := fun i => by
    cases hb : (ofG l i).testBit i with
    | false => rfl
    | true =>
      rw [ofG_bit (fun x hx b hb => (hl x hx b hb).1)] at hb
      exact absurd rfl hb.1
  bnd := fun i j hb => by
    rw [ofG_bit (fun x hx b hb => (hl x hx b hb).1)] at hb
    obtain ⟨h1, x, hx, h2, h3⟩ := hb
    have := hl x hx _ h3
    omega
end
section
set_option linter.unusedVariables false
set_option linter.unusedSimpArgs false
open Go.RowKit Go.Proofs.YtnnaakinchophaaW.PrintWords Go.Proofs.YtnnaakinchophaaW.PrintLast Go.Proofs.YtnnaakinchophaaW.PrintMore
/-- The fill of an order. -/
def flR : (Nat → Nat) → List Int → List (Int × Int)
  | _, [] => []
  | H, v :: r => mis H v.toNat ++ flR (elimF H v.toNat) r
/-- The width of an order. -/
def wdR : (Nat → Nat) → List Int → Int
  | _, [] => 0
  | H, v :: r => mx (popc (H v.toNat) : Int) (wdR (elimF H v.toNat) r)
theorem mx_assoc (a b c : Int) : mx (mx a b) c = mx a (mx b c) := by
  unfold mx
  repeat' split
  all_goals omega
theorem wdR_nonneg : ∀ (o : List Int) (H : Nat → Nat), 0 ≤ wdR H o
  | [], _ => Int.le_refl _
  | v :: r, H => by
    have := wdR_nonneg r (elimF H v.toNat)
    unfold wdR mx
    split <;> omega
theorem plL_eq : ∀ (o : List Int) (H : Nat → Nat) (w : Int) (f : List (Int × Int)), 0 ≤ w → plL H w f o = (mx w (wdR H o), f ++ flR H o)
  | [], H, w, f, hw => by
    show (w, f) = _
    unfold wdR flR mx
    rw [if_neg (by omega), List.append_nil]
  | v :: r, H, w, f, hw => by
    show plL (elimF H v.toNat) (mx w (popc (H v.toNat) : Int)) (f ++ mis H v.toNat) r = _
    rw [plL_eq r _ _ _ (Int.le_trans hw (le_mx _ _)), mx_assoc, List.append_assoc]
    rfl
theorem played_eq {n : Int} {l : List (List Int)} {o : List Int} (hR : rightF n l = true) (hA : allF n o = true) : playedF n l o = (wdR (ofG l) o, flR (ofG l) o, 0) := by
  unfold playedF
  rw [hR, hA, plL_eq o _ 0 [] (Int.le_refl _)]
  have := wdR_nonneg o (ofG l)
  have e : mx 0 (wdR (ofG l) o) = wdR (ofG l) o := by unfold mx; split <;> omega
  simp [e]
/-- An order of what is written. -/
def Ran (N : Nat) (o : List Int) : Prop := ∀ v ∈ o, 0 ≤ v ∧ v < (N : Int)
theorem Ran.head {N : Nat} {v : Int} {r : List Int} (h : Ran N (v :: r)) : ∃ u : Nat, v = (u : Int) ∧ u < N := ⟨v.toNat, by have := h v List.mem_cons_self; omega, by have := h v List.mem_cons_self; omega⟩
theorem Ran.tail {N : Nat} {v : Int} {r : List Int} (h : Ran N (v :: r)) : Ran N r := fun x hx => h x (List.mem_cons_of_mem _ hx)
theorem flR_mem {N : Nat} (hN : N ≤ 16) : ∀ (o : List Int) (H : Nat → Nat) (p : Int × Int), Gr N H → Ran N o → p ∈ flR H o → ∃ a b : Nat, p = pr a b ∧ a < b ∧ b < N
  | [], _, _, _, _, hp => by cases hp
  | v :: r, H, p, h, hR, hp => by
    rcases List.mem_append.1 hp with hp | hp
    · obtain ⟨a, b, h1, h2, h3, h4, h5, _⟩ := mis_mem hp
      exact ⟨a, b, h3, h1, h.bnd _ _ h5⟩
    · exact flR_mem hN r _ p (h.elim hN _) hR.tail hp
theorem flR_pr {N : Nat} (hN : N ≤ 16) {o : List Int} {H : Nat → Nat} (h : Gr N H) (hR : Ran N o) : ∀ p ∈ flR H o, ∃ a b : Nat, p = pr a b := fun p hp => by
  obtain ⟨a, b, h1, _⟩ := flR_mem hN o H p h hR hp
  exact ⟨a, b, h1⟩
/-- Nothing falls to a variable without neighbors. -/
theorem flR_lone {N : Nat} (hN : N ≤ 16) (v : Nat) : ∀ (o : List Int) (H : Nat → Nat) (a b : Nat), Gr N H → (∀ j, (H v).testBit j = false) → pr a b ∈ flR H o → a ≠ v ∧ b ≠ v
  | [], _, _, _, _, _, hp => by cases hp
  | u :: r, H, a, b, h, hv, hp => by
    rcases List.mem_append.1 hp with hp | hp
    · obtain ⟨h1, h2, h3, h4, h5⟩ := mis_iff.1 hp
      constructor
      · intro e
        have := h.sym _ _ h3
        rw [e, hv] at this
        cases this
      · intro e
        have := h.sym _ _ h4
        rw [e, hv] at this
        cases this
    · refine flR_lone hN v r _ a b (h.elim hN _) (fun j => ?_) hp
      cases hb : (elimF H u.toNat v).testBit j with
      | false => rfl
      | true =>
        rw [elim_bit h hN] at hb
        rcases hb.2.2 with h3 | ⟨_, h3, _⟩
        · rw [hv] at h3; cases h3
        · have := h.sym _ _ h3
          rw [hv] at this
          cases this
theorem addL_gr {N : Nat} {H : Nat → Nat} (h : Gr N H) {ps : List (Int × Int)} (hp : ∀ p ∈ ps, ∃ a b : Nat, p = pr a b ∧ a < b ∧ b < N) : Gr N (addL H ps) := by
  have hpr : ∀ p ∈ ps, ∃ a b : Nat, p = pr a b := fun p h => by
    obtain ⟨a, b, h1, _⟩ := hp p h
    exact ⟨a, b, h1⟩
  have hlt : ∀ a b, pr a b ∈ ps → a < b ∧ b < N := fun a b h => by
    obtain ⟨c, d, h1, h2, h3⟩ := hp _ h
    obtain ⟨rfl, rfl⟩ := pr_eq.1 h1
    exact ⟨h2, h3⟩
  refine ⟨fun i j hb => ?_, fun i => ?_, fun i j hb => ?_⟩
  · rw [addL_bit _ _ _ _ hpr] at hb ⊢
    rcases hb with hb | hb | hb
    · exact Or.inl (h.sym _ _ hb)
    · exact Or.inr (Or.inr hb)
    · exact Or.inr (Or.inl hb)
  · cases hb : (addL H ps i).testBit i with
    | false => rfl
    | true =>
      rw [addL_bit _ _ _ _ hpr] at hb
      rcases hb with hb | hb | hb
      · rw [h.irr] at hb; cases hb
      · have := hlt _ _ hb; omega
      · have := hlt _ _ hb; omega
  · rw [addL_bit _ _ _ _ hpr] at hb
    rcases hb with hb | hb | hb
    · exact h.bnd _ _ hb
    · exact (hlt _ _ hb).2
    · have := hlt _ _ hb; omega
/-- With its fill an order has no fill, and the same width. -/
theorem fill_none {N : Nat} (hN : N ≤ 16) : ∀ (o : List Int) (H : Nat → Nat), Gr N H → Ran N o → flR (addL H (flR H o)) o = [] ∧ wdR (addL H (flR H o)) o = wdR H o
  | [], _, _, _ => ⟨rfl, rfl⟩
  | v :: r, H, h, hR => by
    obtain ⟨v, rfl, hv⟩ := hR.head
    have hE := h.elim hN v
    have hF := flR_pr hN hE hR.tail
    have hps := flR_pr hN h hR
    have hG := addL_gr h (fun p hp => flR_mem hN _ H p h hR hp)
    have hlone : ∀ a b, pr a b ∈ flR (elimF H v) r → a ≠ v ∧ b ≠ v := fun a b hp => flR_lone hN v r _ a b hE (fun j => by
      cases hb : (elimF H v v).testBit j with
      | false => rfl
      | true => rw [elim_bit h hN] at hb; exact absurd rfl hb.1) hp
    have hfl : flR H ((v : Int) :: r) = mis H v ++ flR (elimF H v) r := rfl
    have hP : ∀ i j, (addL H (flR H ((v : Int) :: r)) i).testBit j = true ↔ (H i).testBit j = true ∨ (pr i j ∈ mis H v ∨ pr i j ∈ flR (elimF H v) r) ∨ (pr j i ∈ mis H v ∨ pr j i ∈ flR (elimF H v) r) := fun i j => by
      rw [addL_bit _ _ _ _ hps, hfl, List.mem_append, List.mem_append]
    have hrow : ∀ j, (addL H (flR H ((v : Int) :: r)) v).testBit j = true ↔ (H v).testBit j = true := fun j => by
      rw [hP]
      constructor
      · rintro (hb | (hb | hb) | (hb | hb))
        · exact hb
        · have := (mis_iff.1 hb).2.2.1
          rw [h.irr] at this; cases this
        · exact absurd rfl (hlone _ _ hb).1
        · have := (mis_iff.1 hb).2.2.2.1
          rw [h.irr] at this; cases this
        · exact absurd rfl (hlone _ _ hb).2
      · exact Or.inl
    have hclique : ∀ i j, i ≠ j → (H v).testBit i = true → (H v).testBit j = true → (addL H (flR H ((v : Int) :: r)) i).testBit j = true := fun i j hne hi hj => by
      rw [hP]
      by_cases hb : (H i).testBit j = true
      · exact Or.inl hb
      · right
        rw [Bool.not_eq_true] at hb
        have hi16 := h.bnd _ _ hi
        have hj16 := h.bnd _ _ hj
        rcases Nat.lt_or_ge i j with hlt | hge
        · exact Or.inl (Or.inl (mis_iff.2 ⟨hlt, by omega, hi, hj, hb⟩))
        · refine Or.inr (Or.inl (mis_iff.2 ⟨by omega, by omega, hj, hi, ?_⟩))
          cases hb2 : (H j).testBit i with
          | false => rfl
          | true => rw [h.sym _ _ hb2] at hb; cases hb
    have hmis : mis (addL H (flR H ((v : Int) :: r))) v = [] := by
      apply List.eq_nil_iff_forall_not_mem.2
      intro p hp
      obtain ⟨a, b, h1, h2, rfl, h4, h5, h6⟩ := mis_mem hp
      rw [hclique a b (by omega) ((hrow a).1 h4) ((hrow b).1 h5)] at h6
      cases h6
    have hnext : elimF (addL H (flR H ((v : Int) :: r))) v = addL (elimF H v) (flR (elimF H v) r) := by
      apply masks_ext
      intro i j
      rw [elim_bit hG hN, addL_bit _ _ _ _ hF, elim_bit h hN, hrow, hrow]
      constructor
      · rintro ⟨h1, h2, h3 | h3⟩
        · rw [hP] at h3
          rcases h3 with h3 | (h3 | h3) | (h3 | h3)
          · exact Or.inl ⟨h1, h2, Or.inl h3⟩
          · have := mis_iff.1 h3
            exact Or.inl ⟨h1, h2, Or.inr ⟨by omega, this.2.2.1, this.2.2.2.1⟩⟩
          · exact Or.inr (Or.inl h3)
          · have := mis_iff.1 h3
            exact Or.inl ⟨h1, h2, Or.inr ⟨by omega, this.2.2.2.1, this.2.2.1⟩⟩
          · exact Or.inr (Or.inr h3)
        · exact Or.inl ⟨h1, h2, Or.inr h3⟩
      · rintro (⟨h1, h2, h3⟩ | h3 | h3)
        · refine ⟨h1, h2, ?_⟩
          rcases h3 with h3 | h3
          · exact Or.inl ((hP i j).2 (Or.inl h3))
          · exact Or.inr h3
        · have := hlone _ _ h3
          exact ⟨this.1, this.2, Or.inl ((hP i j).2 (Or.inr (Or.inl (Or.inr h3))))⟩
        · have := hlone _ _ h3
          exact ⟨this.2, this.1, Or.inl ((hP i j).2 (Or.inr (Or.inr (Or.inr h3))))⟩
    have hrw : addL H (flR H ((v : Int) :: r)) v = H v := by
      apply Nat.eq_of_testBit_eq
      intro j
      rw [Bool.eq_iff_iff]
      exact hrow j
    have ih := fill_none hN r (elimF H v) hE hR.tail
    constructor
    · show mis (addL H (flR H ((v : Int) :: r))) v ++ flR (elimF (addL H (flR H ((v : Int) :: r))) v) r = []
      rw [hmis, hnext, ih.1]
      rfl
    · show mx (popc (addL H (flR H ((v : Int) :: r)) v) : Int) (wdR (elimF (addL H (flR H ((v : Int) :: r))) v) r) = mx (popc (H v) : Int) (wdR (elimF H v) r)
      rw [hrw, hnext, ih.2]
/-- Scopes and pairs. -/
theorem ofG_pairs {N : Nat} {l : List (List Int)} (hl : ∀ x ∈ l, ∀ b ∈ x, 0 ≤ b ∧ b < (N : Int)) (ps : List (Int × Int)) (hp : ∀ p ∈ ps, ∃ a b : Nat, p = pr a b ∧ a < b ∧ b < N) : ofG (l ++ ps.map fun p => [p.1, p.2]) = addL (ofG l) ps := by
  have hpr : ∀ p ∈ ps, ∃ a b : Nat, p = pr a b := fun p h => by
    obtain ⟨a, b, h1, _⟩ := hp p h
    exact ⟨a, b, h1⟩
  have hl0 : ∀ x ∈ l, ∀ b ∈ x, 0 ≤ b := fun x hx b hb => (hl x hx b hb).1
  have hl1 : ∀ x ∈ l ++ ps.map fun p => [p.1, p.2], ∀ b ∈ x, 0 ≤ b := fun x hx b hb => by
    rcases List.mem_append.1 hx with hx | hx
    · exact hl0 x hx b hb
    · obtain ⟨p, hp1, rfl⟩ := List.mem_map.1 hx
      obtain ⟨c, d, rfl, _⟩ := hp p hp1
      simp only [pr, List.mem_cons, List.not_mem_nil, or_false] at hb
      omega
  apply masks_ext
  intro i j
  rw [addL_bit _ _ _ _ hpr, ofG_bit hl1, ofG_bit hl0]
  constructor
  · rintro ⟨h1, x, hx, h2, h3⟩
    rcases List.mem_append.1 hx with hx | hx
    · exact Or.inl ⟨h1, x, hx, h2, h3⟩
    · obtain ⟨p, hp1, rfl⟩ := List.mem_map.1 hx
      obtain ⟨c, d, rfl, h4, h5⟩ := hp p hp1
      simp only [pr, List.mem_cons, List.not_mem_nil, or_false] at h2 h3
      right
      rcases h2 with h2 | h2 <;> rcases h3 with h3 | h3
      · omega
      · left
        have e : pr i j = pr c d := pr_eq.2 ⟨by omega, by omega⟩
        rw [e]; exact hp1
      · right
        have e : pr j i = pr c d := pr_eq.2 ⟨by omega, by omega⟩
        rw [e]; exact hp1
      · omega
  · rintro (⟨h1, x, hx, h2, h3⟩ | h | h)
    · exact ⟨h1, x, List.mem_append_left _ hx, h2, h3⟩
    · obtain ⟨c, d, h1, h4, h5⟩ := hp _ h
      obtain ⟨rfl, rfl⟩ := pr_eq.1 h1
      exact ⟨by omega, _, List.mem_append_right _ (List.mem_map.2 ⟨_, h, rfl⟩), by simp [pr], by simp [pr]⟩
    · obtain ⟨c, d, h1, h4, h5⟩ := hp _ h
      obtain ⟨rfl, rfl⟩ := pr_eq.1 h1
      exact ⟨by omega, _, List.mem_append_right _ (List.mem_map.2 ⟨_, h, rfl⟩), by simp [pr], by simp [pr]⟩
/-- Where an order has no fill, what is left always has one whose neighbors are a clique. -/
theorem peo_first {N : Nat} (hN : N ≤ 16) (G : Nat → Nat) (L : Nat) : ∀ (o : List Int) (H : Nat → Nat), Gr N H → Ran N o → flR H o = [] → (∃ j, j < N ∧ L.testBit j = true) → (∀ j, j < N → L.testBit j = true → (j : Int) ∈ o) →
    (∀ i j, L.testBit i = true → L.testBit j = true → ((G i).testBit j = true ↔ (H i).testBit j = true)) → ∃ u, u < N ∧ rchT N G L u = true
  | [], _, _, _, _, ⟨j, hj, hL⟩, ho, _ => absurd (ho j hj hL) List.not_mem_nil
  | v :: r, H, h, hR, hf, hne, ho, hs => by
    obtain ⟨v, rfl, hv⟩ := hR.head
    obtain ⟨hm, hf2⟩ := List.append_eq_nil_iff.1 hf
    have hm2 : mis H v = [] := hm
    have hcl : ∀ i j, i ≠ j → (H v).testBit i = true → (H v).testBit j = true → (H i).testBit j = true := fun i j hne hi hj => by
      cases hb : (H i).testBit j with
      | true => rfl
      | false =>
        have hi16 := h.bnd _ _ hi
        have hj16 := h.bnd _ _ hj
        rcases Nat.lt_or_ge i j with hlt | hge
        · have : pr i j ∈ mis H v := mis_iff.2 ⟨hlt, by omega, hi, hj, hb⟩
          rw [hm2] at this; cases this
        · have : pr j i ∈ mis H v := mis_iff.2 ⟨by omega, by omega, hj, hi, by
            cases hb2 : (H j).testBit i with
            | false => rfl
            | true => rw [h.sym _ _ hb2] at hb; cases hb⟩
          rw [hm2] at this; cases this
    by_cases hLv : L.testBit v = true
    · refine ⟨v, hv, ?_⟩
      unfold rchT
      rw [hLv]
      have : rfill G L N v = [] := by
        apply List.eq_nil_iff_forall_not_mem.2
        intro p hp
        obtain ⟨a, b, h1, h2, h3, h4, h5, h6, h7, h8⟩ := rfill_mem hp
        have ha := (hs v a hLv h4).1 h6
        have hb := (hs v b hLv h5).1 h7
        rw [(hs a b h4 h5).2 (hcl a b (by omega) ha hb)] at h8
        cases h8
      rw [this]
      rfl
    · refine peo_first hN G L r (elimF H v) (h.elim hN v) hR.tail hf2 hne (fun j hj hL => ?_) (fun i j hi hj => ?_)
      · rcases List.mem_cons.1 (ho j hj hL) with e | e
        · have : j = v := by omega
          rw [this] at hL; exact absurd hL hLv
        · exact e
      · rw [elim_bit h hN, hs i j hi hj]
        constructor
        · intro hb
          exact ⟨fun e => hLv (e ▸ hi), fun e => hLv (e ▸ hj), Or.inl hb⟩
        · rintro ⟨_, _, hb | ⟨hne, h3, h4⟩⟩
          · exact hb
          · exact hcl i j hne h3 h4
theorem rchI_spec {N : Nat} {G : Nat → Nat} {L : Nat} : ∀ (d k : Nat), N - k = d → k ≤ N → (∃ u, k ≤ u ∧ u < N ∧ rchT N G L u = true) → ∃ u, rchI N G L k = some u ∧ u < N ∧ L.testBit u = true := by
  intro d
  induction d with
  | zero => rintro k hd hk ⟨u, h1, h2, _⟩; omega
  | succ d ih =>
    rintro k hd hk ⟨u, h1, h2, h3⟩
    rw [rchI_step N G L k (by omega)]
    by_cases hT : rchT N G L k = true
    · rw [if_pos hT]
      refine ⟨k, rfl, by omega, ?_⟩
      unfold rchT at hT
      rw [Bool.and_eq_true] at hT
      exact hT.1
    · rw [if_neg hT]
      refine ih (k + 1) (by omega) (by omega) ⟨u, ?_, h2, h3⟩
      rcases Nat.eq_or_lt_of_le h1 with e | e
      · rw [← e] at h3; exact absurd h3 hT
      · omega
theorem rch_peo {N : Nat} (hN : N ≤ 16) {G : Nat → Nat} (h : Gr N G) {o : List Int} (hR : Ran N o) (hf : flR G o = []) (ho : ∀ j : Nat, j < N → (j : Int) ∈ o) : ∀ (m L : Nat), (leftL N L).length = m → rchL N G m L = true
  | 0, _, _ => rfl
  | m + 1, L, hm => by
    have hne : ∃ j, j < N ∧ L.testBit j = true := by
      cases hl : leftL N L with
      | nil => rw [hl] at hm; cases hm
      | cons x r =>
        have : x ∈ leftL N L := by rw [hl]; exact List.mem_cons_self
        obtain ⟨j, _, h1, h2⟩ := leftL_mem.1 this
        exact ⟨j, h1, h2⟩
    obtain ⟨u, hu, hT⟩ := peo_first hN G L o G h hR hf hne (fun j hj _ => ho j hj) (fun i j _ _ => Iff.rfl)
    obtain ⟨v, hI, hv, hL⟩ := rchI_spec (N - 0) 0 rfl (by omega) ⟨u, by omega, hu, hT⟩
    show (match rchI N G L 0 with | none => false | some v => rchL N G m (cb L v)) = true
    rw [hI]
    have hmem : (v : Int) ∈ leftL N L := leftL_mem.2 ⟨v, rfl, hv, hL⟩
    refine rch_peo hN h hR hf ho m (cb L v) ?_
    rw [← leftL_erase hN hv, List.length_erase_of_mem hmem, hm]
    rfl
theorem nodup_len : ∀ (l m : List Int), l.Nodup → (∀ x ∈ l, x ∈ m) → l.length ≤ m.length
  | [], _, _, _ => Nat.zero_le _
  | x :: r, m, hn, hm => by
    obtain ⟨h1, h2⟩ := List.nodup_cons.1 hn
    have hx := hm x List.mem_cons_self
    have := nodup_len r (m.erase x) h2 (fun y hy => (List.mem_erase_of_ne (fun e => h1 (by rw [← e]; exact hy))).2 (hm y (List.mem_cons_of_mem _ hy)))
    rw [List.length_erase_of_mem hx] at this
    have := List.length_pos_of_mem hx
    simp only [List.length_cons]
    omega
theorem od_all {N : Nat} {o : List Int} (h : OdP N o) (hl : o.length = N) (j : Nat) (hj : j < N) : (j : Int) ∈ o := by
  apply Classical.byContradiction
  intro hn
  have := nodup_len ((j : Int) :: o) (idL N) (List.nodup_cons.2 ⟨hn, h.nd⟩) (fun x hx => by
    rcases List.mem_cons.1 hx with rfl | hx
    · exact idL_mem.2 ⟨by omega, by omega⟩
    · exact idL_mem.2 (h.rg x hx))
  rw [idL_len, List.length_cons, hl] at this
  omega
theorem right_gr {n : Int} {l : List (List Int)} (h : rightF n l = true) : ∃ N : Nat, n = (N : Int) ∧ N ≤ 16 ∧ Gr N (ofG l) := by
  have hT := rightF_true h
  obtain ⟨N, rfl⟩ := Int.eq_ofNat_of_zero_le hT.1
  exact ⟨N, rfl, by omega, ofG_gr (fun x hx => (hT.2.2.2 x hx).2)⟩
/-- Some order without fill: Chordal says so. -/
theorem chord_of_order {N : Nat} {l : List (List Int)} {o : List Int} (hR : rightF (N : Int) l = true) (ho : OdP N o) (hl : o.length = N) (hf : flR (ofG l) o = []) : chordF (N : Int) l = (true, 0) := by
  have hT := rightF_true hR
  rw [← chord_same]
  unfold rchordF
  rw [hR, if_pos rfl, Int.toNat_natCast, rch_peo (show N ≤ 16 by omega) (ofG_gr (fun x hx => (hT.2.2.2 x hx).2)) ho.rg hf (od_all ho hl) N (2 ^ N - 1) (by rw [leftL_all, idL_len])]
/-- Chordal says so: the order of MinFill has no fill. -/
theorem chord_order {N : Nat} {l : List (List Int)} (hR : rightF (N : Int) l = true) (hc : (chordF (N : Int) l).1 = true) : flR (ofG l) (greedyF cfF (N : Int) l).1 = [] := by
  have hgo := greedy_od (cf := cfF) hR
  rw [Int.toNat_natCast] at hgo
  unfold chordF at hc
  rw [hR, if_pos rfl, played_eq hR (allF_od hgo.1 hgo.2.1)] at hc
  exact List.length_eq_zero_iff.1 (of_decide_eq_true hc)
theorem rightF_mk {n : Int} {l : List (List Int)} (h0 : 0 ≤ n) (h1 : n ≤ 16) (h2 : l.length ≤ 1000) (h3 : ∀ x ∈ l, x.length ≤ 100 ∧ ∀ v ∈ x, 0 ≤ v ∧ v < n) : rightF n l = true := by
  unfold rightF
  rw [Bool.and_eq_true, decide_eq_true_eq, Bool.not_eq_true', List.any_eq_false]
  refine ⟨⟨h0, h1, h2⟩, fun x hx => ?_⟩
  have h4 := h3 x hx
  unfold offR
  rw [Bool.or_eq_true, not_or, decide_eq_true_eq]
  refine ⟨by omega, ?_⟩
  have : x.any (offB n) = false := List.any_eq_false.2 (fun v hv => by
    unfold offB
    rw [decide_eq_true_eq]
    have := h4.2 v hv
    omega)
  rw [this]
  simp
theorem flat_len {β : Type} (g : Nat → List β) (p : Nat → Bool) (M : Nat) : ∀ (l : List Nat), (∀ a ∈ l, (g a).length ≤ if p a = true then M else 0) → (l.flatMap g).length ≤ (l.filter p).length * M
  | [], _ => by simp
  | a :: r, h => by
    have ih := flat_len g p M r (fun b hb => h b (List.mem_cons_of_mem _ hb))
    have ha := h a List.mem_cons_self
    rw [List.flatMap_cons, List.length_append, List.filter_cons]
    cases hp : p a with
    | true =>
      rw [hp, if_pos rfl] at ha
      simp only [if_true, List.length_cons]
      rw [Nat.add_mul]
      omega
    | false =>
      rw [hp, if_neg (by simp)] at ha
      simp only [Bool.false_eq_true, if_false]
      omega
theorem count_lt : ∀ N, N < 17 → ((List.range' 0 16).filter fun a => decide (a < N)).length ≤ N := by decide
theorem filter_sub (p q : Nat → Bool) (h : ∀ a, p a = true → q a = true) : ∀ l : List Nat, (l.filter p).length ≤ (l.filter q).length
  | [] => Nat.le_refl _
  | a :: r => by
    have ih := filter_sub p q h r
    rw [List.filter_cons, List.filter_cons]
    cases hp : p a with
    | true => rw [h a hp]; simp only [if_true, List.length_cons]; omega
    | false =>
      cases hq : q a with
      | true => simp only [Bool.false_eq_true, if_false, if_true, List.length_cons]; omega
      | false => simp only [Bool.false_eq_true, if_false]; exact ih
theorem filter_tail (p : Nat → Bool) (k : Nat) (hk : k ≤ 16) : ((List.range' k (16 - k)).filter p).length ≤ ((List.range' 0 16).filter p).length := by
  have e : List.range' 0 16 = List.range' 0 k ++ List.range' k (16 - k) := by
    have := List.range'_append (s := 0) (m := k) (n := 16 - k) (step := 1)
    rw [show 0 + 1 * k = k by omega, show k + (16 - k) = 16 by omega] at this
    exact this.symm
  rw [e, List.filter_append, List.length_append]
  omega
theorem mis_small {N : Nat} (hN : N ≤ 16) {H : Nat → Nat} (h : Gr N H) (v : Nat) : (mis H v).length ≤ N * N := by
  unfold mis misA
  refine Nat.le_trans (flat_len _ (fun a => decide (a < N)) N _ (fun a ha => ?_)) (Nat.mul_le_mul_right N (count_lt N (by omega)))
  have ha16 := (List.mem_range'_1.1 ha).2
  by_cases hb : (H v).testBit a = true
  · rw [if_pos hb, if_pos (decide_eq_true (h.bnd _ _ hb))]
    unfold misB
    rw [List.length_map]
    refine Nat.le_trans (filter_sub _ (fun b => decide (b < N)) (fun b hb => ?_) _) (Nat.le_trans (filter_tail _ (a + 1) (by omega)) (count_lt N (by omega)))
    rw [Bool.and_eq_true] at hb
    exact decide_eq_true (h.bnd _ _ hb.1)
  · rw [if_neg hb]
    exact Nat.zero_le _
theorem flR_len {N : Nat} (hN : N ≤ 16) : ∀ (o : List Int) (H : Nat → Nat), Gr N H → (flR H o).length ≤ o.length * (N * N)
  | [], _, _ => Nat.zero_le _
  | v :: r, H, h => by
    have h1 := mis_small hN h v.toNat
    have h2 := flR_len hN r _ (h.elim hN v.toNat)
    show (mis H v.toNat ++ flR (elimF H v.toNat) r).length ≤ (r.length + 1) * (N * N)
    rw [List.length_append, Nat.add_mul]
    omega
def lst (p : Int × Int) : List Int := [p.1, p.2]
/-- The graph with the fill: right, chordal, the order without fill and as wide. -/
theorem fills_law {N : Nat} (hN : N ≤ 9) {l : List (List Int)} (hR : rightF (N : Int) l = true) (hl : l.length ≤ 200) {o : List Int} (ho : OdP N o) (hol : o.length = N) :
    (playedF (N : Int) l o).2.2 = 0 ∧ chordF (N : Int) (l ++ (playedF (N : Int) l o).2.1.map lst) = (true, 0) ∧ playedF (N : Int) (l ++ (playedF (N : Int) l o).2.1.map lst) o = ((playedF (N : Int) l o).1, [], 0) ∧ (playedF (N : Int) l o).2.1.length ≤ 729 := by
  have hT := rightF_true hR
  have hA := allF_od ho hol
  have hrg : ∀ x ∈ l, ∀ b ∈ x, 0 ≤ b ∧ b < (N : Int) := fun x hx => (hT.2.2.2 x hx).2
  have hG := ofG_gr hrg
  rw [played_eq hR hA]
  have hf := fun p hp => flR_mem (show N ≤ 16 by omega) o (ofG l) p hG ho.rg hp
  have hlen : (flR (ofG l) o).length ≤ 729 := by
    have := flR_len (show N ≤ 16 by omega) o (ofG l) hG
    rw [hol] at this
    have h2 : N * (N * N) ≤ 9 * (9 * 9) := Nat.mul_le_mul hN (Nat.mul_le_mul hN hN)
    omega
  have hofG : ofG (l ++ (flR (ofG l) o).map lst) = addL (ofG l) (flR (ofG l) o) := ofG_pairs hrg _ hf
  have hR2 : rightF (N : Int) (l ++ (flR (ofG l) o).map lst) = true := rightF_mk (by omega) (by omega) (by rw [List.length_append, List.length_map]; omega) (fun x hx => by
    rcases List.mem_append.1 hx with hx | hx
    · exact hT.2.2.2 x hx
    · obtain ⟨p, hp, rfl⟩ := List.mem_map.1 hx
      obtain ⟨a, b, rfl, h1, h2⟩ := hf p hp
      refine ⟨by simp [lst], fun v hv => ?_⟩
      simp only [lst, pr, List.mem_cons, List.not_mem_nil, or_false] at hv
      omega)
  have hn := fill_none (show N ≤ 16 by omega) o (ofG l) hG ho.rg
  refine ⟨rfl, chord_of_order hR2 ho hol (by rw [hofG]; exact hn.1), ?_, hlen⟩
  rw [played_eq hR2 hA, hofG, hn.1, hn.2]
end
section
set_option linter.unusedVariables false
set_option linter.unusedSimpArgs false
open Go.RowKit Go.Proofs.YtnnaakinchophaaW.PrintWords Go.Proofs.YtnnaakinchophaaW.PrintLast Go.Proofs.YtnnaakinchophaaW.PrintMore
/-- A way from i to j through S. -/
inductive Pt (G : Nat → Nat) (S : Nat) : Nat → Nat → Prop
  | one {i j : Nat} : (G i).testBit j = true → Pt G S i j
  | step {i s j : Nat} : (G i).testBit s = true → S.testBit s = true → Pt G S s j → Pt G S i j
theorem Pt.trans {G : Nat → Nat} {S i s j : Nat} (h : Pt G S i s) (hs : S.testBit s = true) (k : Pt G S s j) : Pt G S i j := by
  induction h with
  | one h1 => exact .step h1 hs k
  | step h1 h2 _ ih => exact .step h1 h2 (ih hs k)
theorem Pt.sym {N : Nat} {G : Nat → Nat} (hG : Gr N G) {S i j : Nat} (h : Pt G S i j) : Pt G S j i := by
  induction h with
  | one h1 => exact .one (hG.sym _ _ h1)
  | step h1 h2 _ ih => exact ih.trans h2 (.one (hG.sym _ _ h1))
theorem Pt.mono {G K : Nat → Nat} {S T : Nat} (hG : ∀ i j, (G i).testBit j = true → (K i).testBit j = true) (hS : ∀ i, S.testBit i = true → T.testBit i = true) {i j : Nat} (h : Pt G S i j) : Pt K T i j := by
  induction h with
  | one h1 => exact .one (hG _ _ h1)
  | step h1 h2 _ ih => exact .step (hG _ _ h1) (hS _ h2) ih
theorem Pt.split {G : Nat → Nat} {S v i j : Nat} (h : Pt G (sb S v) i j) : Pt G S i j ∨ (Pt G S i v ∧ Pt G S v j) := by
  induction h with
  | one h1 => exact Or.inl (.one h1)
  | @step i s j h1 h2 _ ih =>
    rw [sb_bit, Bool.or_eq_true, decide_eq_true_eq] at h2
    rcases h2 with h2 | rfl
    · rcases ih with ih | ⟨ih1, ih2⟩
      · exact Or.inl (.step h1 h2 ih)
      · exact Or.inr ⟨.step h1 h2 ih1, ih2⟩
    · rcases ih with ih | ⟨_, ih2⟩
      · exact Or.inr ⟨.one h1, ih⟩
      · exact Or.inr ⟨.one h1, ih2⟩
/-- H is what eliminating S leaves of G. -/
def Chr (G : Nat → Nat) (S : Nat) (H : Nat → Nat) : Prop := ∀ i j, (H i).testBit j = true ↔ S.testBit i = false ∧ S.testBit j = false ∧ i ≠ j ∧ Pt G S i j
theorem chr_start {N : Nat} {G : Nat → Nat} (hG : Gr N G) : Chr G 0 G := fun i j => by
  constructor
  · intro h
    refine ⟨Nat.zero_testBit _, Nat.zero_testBit _, fun e => ?_, .one h⟩
    rw [e, hG.irr] at h
    cases h
  · rintro ⟨_, _, _, h⟩
    cases h with
    | one h => exact h
    | step _ h _ => rw [Nat.zero_testBit] at h; cases h
theorem chr_elim {N : Nat} (hN : N ≤ 16) {G H : Nat → Nat} (hG : Gr N G) (hH : Gr N H) {S v : Nat} (h : Chr G S H) (hv : S.testBit v = false) : Chr G (sb S v) (elimF H v) := fun i j => by
  rw [elim_bit hH hN]
  have hsub : ∀ i, S.testBit i = true → (sb S v).testBit i = true := fun i hi => by rw [sb_bit, hi]; rfl
  have hvS : (sb S v).testBit v = true := by rw [sb_bit]; simp
  have hb : ∀ i, (sb S v).testBit i = false ↔ S.testBit i = false ∧ i ≠ v := fun i => by
    rw [sb_bit, Bool.or_eq_false_iff, decide_eq_false_iff_not]
  rw [hb, hb]
  constructor
  · rintro ⟨h1, h2, h3 | ⟨h3, h4, h5⟩⟩
    · obtain ⟨a, b, c, d⟩ := (h i j).1 h3
      exact ⟨⟨a, h1⟩, ⟨b, h2⟩, c, d.mono (fun _ _ h => h) hsub⟩
    · obtain ⟨_, a, _, d⟩ := (h v i).1 h4
      obtain ⟨_, b, _, e⟩ := (h v j).1 h5
      exact ⟨⟨a, h1⟩, ⟨b, h2⟩, h3, ((d.sym hG).mono (fun _ _ h => h) hsub).trans hvS (e.mono (fun _ _ h => h) hsub)⟩
  · rintro ⟨⟨a, h1⟩, ⟨b, h2⟩, h3, d⟩
    refine ⟨h1, h2, ?_⟩
    rcases d.split with d | ⟨d, e⟩
    · exact Or.inl ((h i j).2 ⟨a, b, h3, d⟩)
    · exact Or.inr ⟨h3, (h v i).2 ⟨hv, a, fun e => h1 e.symm, d.sym hG⟩, (h v j).2 ⟨hv, b, fun e => h2 e.symm, e⟩⟩
/-! What behind goes through. -/
theorem bhS_fold (G : Nat → Nat) (out at_ : Nat) : ∀ (l : List Nat) (s : Nat × List Int), l.Nodup →
    (∀ j, (l.foldl (bhS G out at_) s).1.testBit j = true ↔ s.1.testBit j = true ∨ (j ∈ l ∧ (G at_).testBit j = true)) ∧
    (∀ x, x ∈ (l.foldl (bhS G out at_) s).2 ↔ x ∈ s.2 ∨ ∃ b : Nat, b ∈ l ∧ x = (b : Int) ∧ (G at_).testBit b = true ∧ s.1.testBit b = false ∧ out.testBit b = true)
  | [], s, _ => by simp
  | b :: r, s, hn => by
    obtain ⟨hb, hr⟩ := List.nodup_cons.1 hn
    obtain ⟨ih1, ih2⟩ := bhS_fold G out at_ r (bhS G out at_ s b) hr
    rw [List.foldl_cons]
    have e1 : ∀ j, (bhS G out at_ s b).1.testBit j = true ↔ s.1.testBit j = true ∨ (j = b ∧ (G at_).testBit b = true) := fun j => by
      unfold bhS
      by_cases hc : ((G at_).testBit b && !s.1.testBit b) = true
      · rw [if_pos hc]
        rw [Bool.and_eq_true] at hc
        show (sb s.1 b).testBit j = true ↔ _
        rw [sb_bit, Bool.or_eq_true, decide_eq_true_eq, hc.1]
        simp
      · rw [if_neg hc]
        constructor
        · exact Or.inl
        · rintro (h | ⟨rfl, h⟩)
          · exact h
          · rw [h, Bool.true_and, Bool.not_eq_true'] at hc
            simpa using hc
    have e2 : ∀ x, x ∈ (bhS G out at_ s b).2 ↔ x ∈ s.2 ∨ (x = (b : Int) ∧ (G at_).testBit b = true ∧ s.1.testBit b = false ∧ out.testBit b = true) := fun x => by
      unfold bhS
      by_cases hc : ((G at_).testBit b && !s.1.testBit b) = true
      · rw [if_pos hc]
        rw [Bool.and_eq_true, Bool.not_eq_true'] at hc
        show x ∈ (if out.testBit b then s.2 ++ [(b : Int)] else s.2) ↔ _
        cases ho : out.testBit b with
        | true => simp [hc.1, hc.2]
        | false => simp
      · rw [if_neg hc]
        constructor
        · exact Or.inl
        · rintro (h | ⟨_, h1, h2, _⟩)
          · exact h
          · rw [h1, h2] at hc
            simp at hc
    constructor
    · intro j
      rw [ih1, e1, List.mem_cons]
      constructor
      · rintro ((h | ⟨rfl, h⟩) | ⟨h1, h2⟩)
        · exact Or.inl h
        · exact Or.inr ⟨Or.inl rfl, h⟩
        · exact Or.inr ⟨Or.inr h1, h2⟩
      · rintro (h | ⟨rfl | h1, h2⟩)
        · exact Or.inl (Or.inl h)
        · exact Or.inl (Or.inr ⟨rfl, h2⟩)
        · exact Or.inr ⟨h1, h2⟩
    · intro x
      rw [ih2, e2]
      constructor
      · rintro ((h | ⟨h1, h2, h3, h4⟩) | ⟨c, h1, h2, h3, h4, h5⟩)
        · exact Or.inl h
        · exact Or.inr ⟨b, List.mem_cons_self, h1, h2, h3, h4⟩
        · refine Or.inr ⟨c, List.mem_cons_of_mem _ h1, h2, h3, ?_, h5⟩
          cases hs : s.1.testBit c with
          | false => rfl
          | true => rw [(e1 c).2 (Or.inl hs)] at h4; cases h4
      · rintro (h | ⟨c, h1, h2, h3, h4, h5⟩)
        · exact Or.inl (Or.inl h)
        · rcases List.mem_cons.1 h1 with rfl | h6
          · exact Or.inl (Or.inr ⟨h2, h3, h4, h5⟩)
          · refine Or.inr ⟨c, h6, h2, h3, ?_, h5⟩
            cases hs : (bhS G out at_ s b).1.testBit c with
            | false => rfl
            | true =>
              rcases (e1 c).1 hs with h | ⟨rfl, _⟩
              · rw [h] at h4; cases h4
              · exact absurd h6 hb
/-- Under way: what is seen is met; what is not on the stack has shown its neighbors. -/
structure BhP (G : Nat → Nat) (v S seen : Nat) (st : List Int) : Prop where
  start : seen.testBit v = true
  met : ∀ j, seen.testBit j = true → j = v ∨ Pt G S v j
  stk : ∀ x ∈ st, ∃ b : Nat, x = (b : Int) ∧ b < 16 ∧ seen.testBit b = true ∧ (b = v ∨ S.testBit b = true)
  done : ∀ b j : Nat, seen.testBit b = true → (b = v ∨ S.testBit b = true) → (b : Int) ∉ st → (G b).testBit j = true → seen.testBit j = true
theorem bhL_spec {G : Nat → Nat} (hG : ∀ i, G i < 65536) {v S : Nat} : ∀ (k seen : Nat) (st : List Int) (F : Nat), BhP G v S seen st → bhL G S k seen st = some F → BhP G v S F []
  | 0, _, _, _, _, h => by cases h
  | k + 1, seen, st, F, hP, h => by
    unfold bhL at h
    by_cases hst : st = []
    · rw [if_pos hst] at h
      injection h with h
      subst h; subst hst
      exact hP
    · rw [if_neg hst] at h
      refine bhL_spec hG k _ _ F ?_ h
      rcases List.eq_nil_or_concat st with rfl | ⟨init, x, hx⟩
      · exact absurd rfl hst
      · rw [List.concat_eq_append] at hx
        subst hx
        have hl : (init ++ [x]).length - 1 = init.length := by simp
        rw [hl]
        have hgx : (init ++ [x]).getD init.length 0 = x := by simp [List.getD_eq_getElem?_getD]
        have htk : (init ++ [x]).take init.length = init := by simp
        rw [hgx, htk]
        obtain ⟨a, rfl, ha16, haS, hav⟩ := hP.stk x (by simp)
        rw [Int.toNat_natCast]
        obtain ⟨f1, f2⟩ := bhS_fold G S a (List.range' 0 (16 - 0)) (seen, init) List.nodup_range'
        show BhP G v S ((List.range' 0 (16 - 0)).foldl (bhS G S a) (seen, init)).1 ((List.range' 0 (16 - 0)).foldl (bhS G S a) (seen, init)).2
        have hg1 : ∀ j, ((List.range' 0 (16 - 0)).foldl (bhS G S a) (seen, init)).1.testBit j = true ↔ seen.testBit j = true ∨ (G a).testBit j = true := fun j => by
          rw [f1]
          constructor
          · rintro (h | h)
            · exact Or.inl h
            · exact Or.inr h.2
          · rintro (h | h)
            · exact Or.inl h
            · have := bit16 (hG a) h
              exact Or.inr ⟨List.mem_range'_1.2 (by omega), h⟩
        refine ⟨(hg1 v).2 (Or.inl hP.start), fun j hj => ?_, fun x hx => ?_, fun b j hb hbv hbn hj => ?_⟩
        · rcases (hg1 j).1 hj with hj | hj
          · exact hP.met j hj
          · right
            rcases hav with rfl | hav
            · exact .one hj
            · rcases hP.met a haS with rfl | hp
              · exact .one hj
              · exact hp.trans hav (.one hj)
        · rcases (f2 x).1 hx with hx | ⟨b, hb1, hb2, hb3, hb4, hb5⟩
          · obtain ⟨b, h1, h2, h3, h4⟩ := hP.stk x (List.mem_append_left _ hx)
            exact ⟨b, h1, h2, (hg1 b).2 (Or.inl h3), h4⟩
          · exact ⟨b, hb2, bit16 (hG a) hb3, (hg1 b).2 (Or.inr hb3), Or.inr hb5⟩
        · rw [hg1]
          by_cases hba : b = a
          · subst hba; exact Or.inr hj
          · left
            have hbi : (b : Int) ∉ init := fun hm => hbn ((f2 _).2 (Or.inl hm))
            by_cases hbs : seen.testBit b = true
            · refine hP.done b j hbs hbv (fun hm => ?_) hj
              rcases List.mem_append.1 hm with hm | hm
              · exact hbi hm
              · rw [List.mem_singleton] at hm; omega
            · rw [Bool.not_eq_true] at hbs
              rcases (hg1 b).1 hb with h | h
              · rw [h] at hbs; cases hbs
              · rcases hbv with rfl | hbv
                · rw [hP.start] at hbs; cases hbs
                · exact absurd ((f2 _).2 (Or.inr ⟨b, List.mem_range'_1.2 (by have := bit16 (hG a) h; omega), rfl, h, hbs, hbv⟩)) hbn
theorem bhF_spec {G : Nat → Nat} (hG : ∀ i, G i < 65536) {v S F : Nat} (hv : v < 16) (h : bhF G v S = some F) (j : Nat) : F.testBit j = true ↔ j = v ∨ Pt G S v j := by
  have hP : BhP G v S (2 ^ v) [(v : Int)] := by
    refine ⟨by rw [Nat.testBit_two_pow]; simp, fun j hj => ?_, fun x hx => ?_, fun b j hb _ hbn _ => ?_⟩
    · rw [Nat.testBit_two_pow, decide_eq_true_eq] at hj
      exact Or.inl hj.symm
    · rw [List.mem_singleton] at hx
      exact ⟨v, hx, hv, by rw [Nat.testBit_two_pow]; simp, Or.inl rfl⟩
    · rw [Nat.testBit_two_pow, decide_eq_true_eq] at hb
      subst hb
      simp at hbn
  have hF := bhL_spec hG 17 _ _ F hP h
  constructor
  · exact hF.met j
  · rintro (rfl | hp)
    · exact hF.start
    · have key : ∀ a b, Pt G S a b → F.testBit a = true → (a = v ∨ S.testBit a = true) → F.testBit b = true := by
        intro a b hab
        induction hab with
        | one h1 => exact fun ha hav => hF.done _ _ ha hav List.not_mem_nil h1
        | step h1 h2 _ ih => exact fun ha hav => ih (hF.done _ _ ha hav List.not_mem_nil h1) (Or.inr h2)
      exact key v j hp hF.start (Or.inl rfl)
theorem popc_congr {X Y : Nat} (h : ∀ j, j < 16 → (X.testBit j = true ↔ Y.testBit j = true)) : popc X = popc Y := by
  unfold popc
  congr 1
  apply List.filter_congr
  intro j hj
  rw [Bool.eq_iff_iff]
  exact h j (List.mem_range.1 hj)
/-- What behind counts is the degree in what is left. -/
theorem bhN_deg {N : Nat} (hN : N ≤ 16) {G H : Nat → Nat} (hG : Gr N G) {S v : Nat} (h : Chr G S H) (hv : v < 16) (hS : S.testBit v = false) : bhN G v S = popc (H v) := by
  unfold bhN
  obtain ⟨F, hF⟩ := bhF_some G v S hv
  rw [hF]
  apply popc_congr
  intro j hj
  show (an (an F S) (2 ^ v)).testBit j = true ↔ _
  rw [an_bit _ _ _ (by omega), an_bit _ _ _ (by omega), h v j, Bool.and_eq_true, Bool.and_eq_true, bhF_spec (hG.lt hN) hv hF, Nat.testBit_two_pow, Bool.not_eq_true', Bool.not_eq_true', decide_eq_false_iff_not]
  constructor
  · rintro ⟨⟨h1 | h1, h2⟩, h3⟩
    · exact absurd h1.symm h3
    · exact ⟨hS, h2, h3, h1⟩
  · rintro ⟨_, h2, h3, h4⟩
    exact ⟨⟨Or.inr h4, h2⟩, h3⟩
/-- The width of an order of what S leaves. -/
def wS (G : Nat → Nat) : Nat → List Int → Int
  | _, [] => 0
  | S, v :: r => mx (bhN G v.toNat S : Int) (wS G (sb S v.toNat) r)
theorem wS_eq {N : Nat} (hN : N ≤ 16) {G : Nat → Nat} (hG : Gr N G) : ∀ (o : List Int) (H : Nat → Nat) (S : Nat), Gr N H → Chr G S H → Ran N o → o.Nodup → (∀ x ∈ o, S.testBit x.toNat = false) → wdR H o = wS G S o
  | [], _, _, _, _, _, _, _ => rfl
  | v :: r, H, S, hH, h, hR, hn, hS => by
    obtain ⟨v, rfl, hv⟩ := hR.head
    obtain ⟨h1, h2⟩ := List.nodup_cons.1 hn
    have hSv := hS _ List.mem_cons_self
    rw [Int.toNat_natCast] at hSv
    show mx (popc (H v) : Int) (wdR (elimF H v) r) = mx (bhN G v S : Int) (wS G (sb S v) r)
    rw [bhN_deg hN hG h (by omega) hSv, wS_eq hN hG r _ _ (hH.elim hN v) (chr_elim hN hG hH h hSv) hR.tail h2 (fun x hx => ?_)]
    have hx0 := hR.tail x hx
    rw [sb_bit, hS x (List.mem_cons_of_mem _ hx)]
    have : x.toNat ≠ v := fun e => h1 (by have : x = (v : Int) := by omega
                                          rw [← this]; exact hx)
    simp [this]
theorem wS_order {N : Nat} (hN : N ≤ 16) {G : Nat → Nat} (hG : Gr N G) {o : List Int} (ho : OdP N o) : wdR G o = wS G 0 o := wS_eq hN hG o G 0 hG (chr_start hG) ho.rg ho.nd (fun _ _ => Nat.zero_testBit _)
end
section
set_option linter.unusedVariables false
set_option linter.unusedSimpArgs false
open Go.RowKit Go.Proofs.YtnnaakinchophaaW.PrintWords Go.Proofs.YtnnaakinchophaaW.PrintLast Go.Proofs.YtnnaakinchophaaW.PrintMore
theorem popc_mono {X Y : Nat} (h : ∀ j, j < 16 → X.testBit j = true → Y.testBit j = true) : popc X ≤ popc Y := by
  unfold popc
  have : ∀ l : List Nat, (∀ j ∈ l, j < 16) → (l.filter fun i => X.testBit i).length ≤ (l.filter fun i => Y.testBit i).length := by
    intro l
    induction l with
    | nil => intro _; exact Nat.le_refl _
    | cons a r ih =>
      intro hl
      have ih := ih (fun j hj => hl j (List.mem_cons_of_mem _ hj))
      rw [List.filter_cons, List.filter_cons]
      cases hp : X.testBit a with
      | true => rw [h a (hl a List.mem_cons_self) hp]; simp only [if_true, List.length_cons]; omega
      | false =>
        cases hq : Y.testBit a with
        | true => simp only [Bool.false_eq_true, if_false, if_true, List.length_cons]; omega
        | false => simp only [Bool.false_eq_true, if_false]; exact ih
  exact this _ (fun j hj => List.mem_range.1 hj)
theorem popc_le {X N : Nat} (hN : N ≤ 16) (h : ∀ j, X.testBit j = true → j < N) : popc X ≤ N := by
  unfold popc
  rw [List.range_eq_range']
  exact Nat.le_trans (filter_sub _ (fun a => decide (a < N)) (fun a ha => decide_eq_true (h a ha)) _) (count_lt N (by omega))
theorem pt_bnd {N : Nat} {G : Nat → Nat} (hG : Gr N G) {S i j : Nat} (h : Pt G S i j) : j < N := by
  induction h with
  | one h => exact hG.bnd _ _ h
  | step _ _ _ ih => exact ih
theorem bhN_bit {N : Nat} (hN : N ≤ 16) {G : Nat → Nat} (hG : Gr N G) {v S F j : Nat} (hv : v < 16) (hF : bhF G v S = some F) (hj : j < 16) : (an (an F S) (2 ^ v)).testBit j = true ↔ Pt G S v j ∧ S.testBit j = false ∧ v ≠ j := by
  rw [an_bit _ _ _ (by omega), an_bit _ _ _ (by omega), Bool.and_eq_true, Bool.and_eq_true, bhF_spec (hG.lt hN) hv hF, Nat.testBit_two_pow, Bool.not_eq_true', Bool.not_eq_true', decide_eq_false_iff_not]
  constructor
  · rintro ⟨⟨h1 | h1, h2⟩, h3⟩
    · exact absurd h1.symm h3
    · exact ⟨h1, h2, h3⟩
  · rintro ⟨h1, h2, h3⟩
    exact ⟨⟨Or.inr h1, h2⟩, h3⟩
theorem bhN_le {N : Nat} (hN : N ≤ 16) {G : Nat → Nat} (hG : Gr N G) {v : Nat} (hv : v < N) (S : Nat) : bhN G v S ≤ N := by
  unfold bhN
  obtain ⟨F, hF⟩ := bhF_some G v S (by omega)
  rw [hF]
  refine popc_le hN (fun j hj => ?_)
  have hj2 : F.testBit j = true := by
    have h1 : (an (an F S) (2 ^ v)).testBit j = true := hj
    unfold an at h1
    rw [Nat.testBit_and, Nat.testBit_and, Bool.and_eq_true, Bool.and_eq_true] at h1
    exact h1.1.1
  rcases (bhF_spec (hG.lt hN) (by omega) hF j).1 hj2 with rfl | h
  · exact hv
  · exact pt_bnd hG h
/-- More edges, no fewer met. -/
theorem bhN_mono {N : Nat} (hN : N ≤ 16) {G K : Nat → Nat} (hG : Gr N G) (hK : Gr N K) (h : ∀ i j, (G i).testBit j = true → (K i).testBit j = true) {v : Nat} (hv : v < 16) (S : Nat) : bhN G v S ≤ bhN K v S := by
  unfold bhN
  obtain ⟨F, hF⟩ := bhF_some G v S hv
  obtain ⟨E, hE⟩ := bhF_some K v S hv
  rw [hF, hE]
  refine popc_mono (fun j hj hb => ?_)
  have h1 := (bhN_bit hN hG hv hF hj).1 hb
  exact (bhN_bit hN hK hv hE hj).2 ⟨h1.1.mono h (fun _ h => h), h1.2⟩
/-- Neighbors that are left are met. -/
theorem bhN_ge {N : Nat} (hN : N ≤ 16) {G : Nat → Nat} (hG : Gr N G) {v S X : Nat} (hv : v < 16) (h : ∀ j, X.testBit j = true → (G v).testBit j = true ∧ S.testBit j = false) : popc X ≤ bhN G v S := by
  unfold bhN
  obtain ⟨F, hF⟩ := bhF_some G v S hv
  rw [hF]
  refine popc_mono (fun j hj hb => ?_)
  obtain ⟨h1, h2⟩ := h j hb
  refine (bhN_bit hN hG hv hF hj).2 ⟨.one h1, h2, fun e => ?_⟩
  rw [e, hG.irr] at h1
  cases h1
theorem wS_nonneg : ∀ (o : List Int) (G : Nat → Nat) (S : Nat), 0 ≤ wS G S o
  | [], _, _ => Int.le_refl _
  | v :: r, G, S => by
    have := wS_nonneg r G (sb S v.toNat)
    unfold wS mx
    split <;> omega
theorem mx_mono {a b c d : Int} (h1 : a ≤ c) (h2 : b ≤ d) : mx a b ≤ mx c d := by
  unfold mx
  split <;> split <;> omega
theorem le_mx_r (a b : Int) : b ≤ mx a b := by unfold mx; split <;> omega
theorem mx_zero {a : Int} (h : 0 ≤ a) : mx a 0 = a := by unfold mx; rw [if_neg (by omega)]
theorem wS_mono {N : Nat} (hN : N ≤ 16) {G K : Nat → Nat} (hG : Gr N G) (hK : Gr N K) (h : ∀ i j, (G i).testBit j = true → (K i).testBit j = true) : ∀ (o : List Int) (S : Nat), Ran N o → wS G S o ≤ wS K S o
  | [], _, _ => Int.le_refl _
  | v :: r, S, hR => by
    obtain ⟨v, rfl, hv⟩ := hR.head
    have := bhN_mono hN hG hK h (show v < 16 by omega) S
    exact mx_mono (by rw [Int.toNat_natCast]; omega) (wS_mono hN hG hK h r _ hR.tail)
/-- The set of a row. -/
def mk (x : List Int) : Nat := x.foldl (fun S v => sb S v.toNat) 0
theorem mk_snoc (x : List Int) (v : Int) : mk (x ++ [v]) = sb (mk x) v.toNat := by
  unfold mk
  rw [List.foldl_append]
  rfl
theorem mkS_bit : ∀ (x : List Int) (S j : Nat), (∀ y ∈ x, 0 ≤ y) → ((x.foldl (fun S v => sb S v.toNat) S).testBit j = true ↔ S.testBit j = true ∨ (j : Int) ∈ x)
  | [], S, j, _ => by simp
  | v :: r, S, j, h => by
    have hv := h v List.mem_cons_self
    rw [List.foldl_cons, mkS_bit r _ j (fun y hy => h y (List.mem_cons_of_mem _ hy)), sb_bit, Bool.or_eq_true, decide_eq_true_eq, List.mem_cons]
    constructor
    · rintro ((h | h) | h)
      · exact Or.inl h
      · exact Or.inr (Or.inl (by omega))
      · exact Or.inr (Or.inr h)
    · rintro (h | h | h)
      · exact Or.inl (Or.inl h)
      · exact Or.inl (Or.inr (by omega))
      · exact Or.inr h
theorem mk_bit {x : List Int} (h : ∀ y ∈ x, 0 ≤ y) (j : Nat) : (mk x).testBit j = true ↔ (j : Int) ∈ x := by
  unfold mk
  rw [mkS_bit x 0 j h, Nat.zero_testBit]
  simp
theorem mk_bitF {x : List Int} (h : ∀ y ∈ x, 0 ≤ y) (j : Nat) : (mk x).testBit j = false ↔ (j : Int) ∉ x := by
  rw [← mk_bit h, Bool.not_eq_true]
theorem mk_lt {N : Nat} {x : List Int} (h : Ran N x) : mk x < 2 ^ N := by
  refine Nat.lt_pow_two_of_testBit _ (fun j hj => ?_)
  rw [mk_bitF (fun y hy => (h y hy).1)]
  intro hm
  have := h _ hm
  omega
theorem mk_full {N : Nat} {x : List Int} (h : OdP N x) (hl : x.length = N) : mk x = 2 ^ N - 1 := by
  apply Nat.eq_of_testBit_eq
  intro j
  rw [Nat.testBit_two_pow_sub_one, Bool.eq_iff_iff, mk_bit (fun y hy => (h.rg y hy).1), decide_eq_true_eq]
  constructor
  · intro hm
    have := h.rg _ hm
    omega
  · exact od_all h hl j
theorem wS_append (G : Nat → Nat) : ∀ (x r : List Int) (S : Nat), wS G S (x ++ r) = mx (wS G S x) (wS G (x.foldl (fun S v => sb S v.toNat) S) r)
  | [], r, S => by
    have := wS_nonneg r G S
    show wS G S r = mx 0 (wS G S r)
    unfold mx
    split <;> omega
  | v :: x, r, S => by
    show mx (bhN G v.toNat S : Int) (wS G (sb S v.toNat) (x ++ r)) = mx (mx (bhN G v.toNat S : Int) (wS G (sb S v.toNat) x)) _
    rw [wS_append G x r, mx_assoc]
    rfl
theorem wS_snoc (G : Nat → Nat) (x : List Int) (v : Nat) : wS G 0 (x ++ [(v : Int)]) = mx (wS G 0 x) (bhN G v (mk x) : Int) := by
  rw [wS_append]
  show mx _ (mx (bhN G ((v : Int)).toNat (mk x) : Int) 0) = _
  rw [Int.toNat_natCast, mx_zero (Int.natCast_nonneg _)]
/-! The table of least widths. -/
abbrev nd (G : Nat → Nat) (N S : Nat) : Int := (needF G N).getD S 0
theorem fold_att (G : Nat → Nat) (S : Nat) (need : List Int) : ∀ (vs : List Nat) (acc : Int), vs.foldl (entS G S need) acc = acc ∨ ∃ v ∈ vs, S.testBit v = false ∧ vs.foldl (entS G S need) acc = mx (bhN G v S : Int) (need.getD (sb S v) 0)
  | [], _ => Or.inl rfl
  | v :: r, acc => by
    rw [List.foldl_cons]
    rcases fold_att G S need r (entS G S need acc v) with h | ⟨u, h1, h2, h3⟩
    · rw [h]
      unfold entS
      cases hv : S.testBit v with
      | true => exact Or.inl rfl
      | false =>
        simp only [Bool.false_eq_true, if_false]
        unfold mn
        split
        · exact Or.inr ⟨v, List.mem_cons_self, hv, rfl⟩
        · exact Or.inl rfl
    · exact Or.inr ⟨u, List.mem_cons_of_mem _ h1, h2, h3⟩
theorem nd_step {G : Nat → Nat} {N S v : Nat} (hS : S < 2 ^ N) (hv : v < N) (h : S.testBit v = false) : nd G N S ≤ mx (bhN G v S : Int) (nd G N (sb S v)) := by
  have hf := needF_ent G N S (not_full hS hv h)
  unfold Ent at hf
  show (needF G N).getD S 0 ≤ _
  rw [hf]
  exact foldl_le_at G S _ v h _ _ (List.mem_range.2 hv)
theorem nd_le {G : Nat → Nat} {N S : Nat} (hS : S < 2 ^ N) : nd G N S ≤ N := by
  rcases Nat.lt_or_ge S (2 ^ N - 1) with h | h
  · have hf := needF_ent G N S h
    unfold Ent at hf
    show (needF G N).getD S 0 ≤ _
    rw [hf]
    exact foldl_le G S _ _ _
  · have : S = 2 ^ N - 1 := by omega
    show (needF G N).getD S 0 ≤ _
    rw [this, needF_full]
    omega
theorem nd_att {N : Nat} (hN : N ≤ 16) {G : Nat → Nat} (hG : Gr N G) {S : Nat} (hS : S < 2 ^ N) (h : ∃ u, u < N ∧ S.testBit u = false) : ∃ v, v < N ∧ S.testBit v = false ∧ mx (bhN G v S : Int) (nd G N (sb S v)) = nd G N S := by
  obtain ⟨u, hu, hSu⟩ := h
  have hf := needF_ent G N S (not_full hS hu hSu)
  unfold Ent at hf
  rcases fold_att G S (needF G N) (List.range N) (N : Int) with h | ⟨v, h1, h2, h3⟩
  · refine ⟨u, hu, hSu, ?_⟩
    have h1 := nd_step (G := G) hS hu hSu
    have h2 : nd G N S = N := by show (needF G N).getD S 0 = _; rw [hf, h]
    have h3 := bhN_le hN hG hu S
    have h4 := nd_le (G := G) (sb_pow hS hu)
    have h5 := mx_le (a := (bhN G u S : Int)) (b := nd G N (sb S u)) (c := (N : Int)) (by omega) h4
    omega
  · exact ⟨v, List.mem_range.1 h1, h2, by show _ = (needF G N).getD S 0; rw [hf, h3]⟩
/-- No order is narrower. -/
theorem nd_low {N : Nat} {G : Nat → Nat} : ∀ (r : List Int) (S : Nat), S < 2 ^ N → Ran N r → r.Nodup → (∀ x ∈ r, S.testBit x.toNat = false) → (∀ j : Nat, j < N → S.testBit j = false → (j : Int) ∈ r) → nd G N S ≤ wS G S r
  | [], S, hS, _, _, _, ha => by
    have : S = 2 ^ N - 1 := by
      apply Nat.eq_of_testBit_eq
      intro j
      rw [Nat.testBit_two_pow_sub_one]
      by_cases hj : j < N
      · cases hb : S.testBit j with
        | true => simp [hj]
        | false => exact absurd (ha j hj hb) List.not_mem_nil
      · rw [Nat.testBit_lt_two_pow (Nat.lt_of_lt_of_le hS (Nat.pow_le_pow_right (by decide) (by omega)))]
        simp [hj]
    show (needF G N).getD S 0 ≤ 0
    rw [this, needF_full]
    exact Int.le_refl _
  | v :: r, S, hS, hR, hn, hb, ha => by
    obtain ⟨v, rfl, hv⟩ := hR.head
    obtain ⟨h1, h2⟩ := List.nodup_cons.1 hn
    have hSv := hb _ List.mem_cons_self
    rw [Int.toNat_natCast] at hSv
    refine Int.le_trans (nd_step hS hv hSv) (mx_mono (Int.le_refl _) (nd_low r (sb S v) (sb_pow hS hv) hR.tail h2 (fun x hx => ?_) (fun j hj hbj => ?_)))
    · have hx0 := hR.tail x hx
      rw [sb_bit, hb x (List.mem_cons_of_mem _ hx)]
      have : x.toNat ≠ v := fun e => h1 (by have : x = (v : Int) := by omega
                                            rw [← this]; exact hx)
      simp [this]
    · rw [sb_bit, Bool.or_eq_false_iff, decide_eq_false_iff_not] at hbj
      rcases List.mem_cons.1 (ha j hj hbj.1) with e | e
      · omega
      · exact e
theorem nd_low0 {N : Nat} {G : Nat → Nat} {o : List Int} (ho : OdP N o) (hl : o.length = N) : nd G N 0 ≤ wS G 0 o :=
  nd_low o 0 (Nat.two_pow_pos _) ho.rg ho.nd (fun _ _ => Nat.zero_testBit _) (fun j hj _ => od_all ho hl j hj)
/-- The laws' own leastOf. -/
def lsS (f : List Int → List Int × Int) (x : List Int) (s : List Int × Int) (v : Nat) : List Int × Int :=
  if (x.any fun y => y == (v : Int)) = true then s else if s.2 < 0 ∨ (f (x ++ [(v : Int)])).2 < s.2 then f (x ++ [(v : Int)]) else s
def leastF (n : Int) (l : List (List Int)) : Nat → List Int → List Int × Int
  | 0, x => (x, (playedR n l x).1)
  | m + 1, x => (List.range n.toNat).foldl (lsS (leastF n l m) x) ([], -1)
/-- The first least so far. -/
def LsP (f : List Int → List Int × Int) (x : List Int) (k : Nat) (s : List Int × Int) : Prop := (s.2 = -1 ∧ ∀ v : Nat, v < k → (v : Int) ∈ x) ∨ ∃ u : Nat, u < k ∧ (u : Int) ∉ x ∧ s = f (x ++ [(u : Int)]) ∧ (∀ v : Nat, v < k → (v : Int) ∉ x → (f (x ++ [(u : Int)])).2 ≤ (f (x ++ [(v : Int)])).2) ∧ ∀ v : Nat, v < u → (v : Int) ∉ x → (f (x ++ [(u : Int)])).2 < (f (x ++ [(v : Int)])).2
theorem any_memR (x : List Int) (v : Int) : (x.any fun y => y == v) = true ↔ v ∈ x := by
  rw [List.any_eq_true]
  constructor
  · rintro ⟨y, hy, h⟩
    rw [beq_iff_eq] at h
    rwa [← h]
  · intro h
    exact ⟨v, h, by simp⟩
theorem lsP_step {f : List Int → List Int × Int} {x : List Int} {k : Nat} {s : List Int × Int} (hf : ∀ v : Nat, (v : Int) ∉ x → v ≤ k → 0 ≤ (f (x ++ [(v : Int)])).2) (h : LsP f x k s) : LsP f x (k + 1) (lsS f x s k) := by
  unfold lsS
  by_cases hm : (k : Int) ∈ x
  · rw [if_pos ((any_memR x k).2 hm)]
    rcases h with ⟨h1, h2⟩ | ⟨u, h1, h2, h3, h4, h5⟩
    · refine Or.inl ⟨h1, fun v hv => ?_⟩
      by_cases e : v = k
      · rw [e]; exact hm
      · exact h2 v (by omega)
    · refine Or.inr ⟨u, by omega, h2, h3, fun v hv hn => ?_, h5⟩
      by_cases e : v = k
      · rw [e] at hn; exact absurd hm hn
      · exact h4 v (by omega) hn
  · rw [if_neg (fun h => hm ((any_memR x k).1 h))]
    rcases h with ⟨h1, h2⟩ | ⟨u, h1, h2, h3, h4, h5⟩
    · rw [if_pos (Or.inl (by omega))]
      refine Or.inr ⟨k, by omega, hm, rfl, fun v hv hn => ?_, fun v hv hn => absurd (h2 v hv) hn⟩
      by_cases e : v = k
      · rw [e]; exact Int.le_refl _
      · exact absurd (h2 v (by omega)) hn
    · have h0 := hf u h2 (by omega)
      subst h3
      by_cases hc : (f (x ++ [(k : Int)])).2 < (f (x ++ [(u : Int)])).2
      · rw [if_pos (Or.inr hc)]
        refine Or.inr ⟨k, by omega, hm, rfl, fun v hv hn => ?_, fun v hv hn => ?_⟩
        · by_cases e : v = k
          · rw [e]; exact Int.le_refl _
          · have := h4 v (by omega) hn; omega
        · have := h4 v hv hn; omega
      · rw [if_neg (by omega)]
        refine Or.inr ⟨u, by omega, h2, rfl, fun v hv hn => ?_, h5⟩
        by_cases e : v = k
        · rw [e]; omega
        · exact h4 v (by omega) hn
theorem lsP_all {f : List Int → List Int × Int} {x : List Int} {N : Nat} (hf : ∀ v : Nat, (v : Int) ∉ x → v < N → 0 ≤ (f (x ++ [(v : Int)])).2) : ∀ (k : Nat), k ≤ N → LsP f x k ((List.range k).foldl (lsS f x) ([], -1))
  | 0, _ => Or.inl ⟨rfl, fun v hv => by omega⟩
  | k + 1, hk => by
    rw [List.range_succ, List.foldl_append]
    exact lsP_step (fun v hn hv => hf v hn (by omega)) (lsP_all hf k (by omega))
/-- leastOf finds what the table says, and Best's order. -/
theorem least_law {N : Nat} (hN : N ≤ 16) {l : List (List Int)} (hR : rightF (N : Int) l = true) (hG : Gr N (ofG l)) : ∀ (m : Nat) (x : List Int), OdP N x → x.length + m = N →
    (leastF (N : Int) l m x).2 = mx (wS (ofG l) 0 x) (nd (ofG l) N (mk x)) ∧ (mx (wS (ofG l) 0 x) (nd (ofG l) N (mk x)) = nd (ofG l) N 0 → selL (ofG l) N (needF (ofG l) N) m (mk x) x = some (leastF (N : Int) l m x).1)
  | 0, x, hx, hl => by
    have hA := allF_od hx (by omega)
    have hf : nd (ofG l) N (mk x) = 0 := by
      show (needF (ofG l) N).getD (mk x) 0 = 0
      rw [mk_full hx (by omega), needF_full]
    refine ⟨?_, fun _ => rfl⟩
    show (playedR (N : Int) l x).1 = _
    rw [played_same, played_eq hR hA, hf, mx_zero (wS_nonneg _ _ _)]
    exact wS_order hN hG hx
  | m + 1, x, hx, hl => by
    have hx0 : ∀ y ∈ x, 0 ≤ y := fun y hy => (hx.rg y hy).1
    have hS := mk_lt hx.rg
    have ih : ∀ v : Nat, (v : Int) ∉ x → v < N → (leastF (N : Int) l m (x ++ [(v : Int)])).2 = mx (wS (ofG l) 0 x) (mx (bhN (ofG l) v (mk x) : Int) (nd (ofG l) N (sb (mk x) v))) ∧ (mx (wS (ofG l) 0 x) (mx (bhN (ofG l) v (mk x) : Int) (nd (ofG l) N (sb (mk x) v))) = nd (ofG l) N 0 → selL (ofG l) N (needF (ofG l) N) m (sb (mk x) v) (x ++ [(v : Int)]) = some (leastF (N : Int) l m (x ++ [(v : Int)])).1) := fun v hn hv => by
      have := least_law hN hR hG m (x ++ [(v : Int)]) (hx.push (by omega) (by omega) (by omega) hn) (by rw [List.length_append]; simp; omega)
      rw [wS_snoc, mk_snoc, Int.toNat_natCast, mx_assoc] at this
      exact this
    have hall := lsP_all (f := leastF (N : Int) l m) (x := x) (N := N) (fun v hn hv => by
      rw [(ih v hn hv).1]
      exact Int.le_trans (wS_nonneg x (ofG l) 0) (le_mx _ _)) N (Nat.le_refl _)
    have hdef : leastF (N : Int) l (m + 1) x = (List.range N).foldl (lsS (leastF (N : Int) l m) x) ([], -1) := by
      show (List.range (N : Int).toNat).foldl _ _ = _
      rw [Int.toNat_natCast]
    rw [← hdef] at hall
    obtain ⟨s, hs, hsm⟩ := od_free hx (by omega)
    rcases hall with ⟨_, h2⟩ | ⟨u, h1, h2, h3, h4, h5⟩
    · exact absurd (h2 s hs) hsm
    · rw [h3]
      have hSu : (mk x).testBit u = false := (mk_bitF hx0 u).2 h2
      have hval : mx (wS (ofG l) 0 x) (mx (bhN (ofG l) u (mk x) : Int) (nd (ofG l) N (sb (mk x) u))) = mx (wS (ofG l) 0 x) (nd (ofG l) N (mk x)) := by
        obtain ⟨v, hv, hSv, hcv⟩ := nd_att hN hG hS ⟨s, hs, (mk_bitF hx0 s).2 hsm⟩
        have h6 := h4 v hv ((mk_bitF hx0 v).1 hSv)
        rw [(ih u h2 h1).1, (ih v ((mk_bitF hx0 v).1 hSv) hv).1, hcv] at h6
        have h7 := mx_mono (Int.le_refl (wS (ofG l) 0 x)) (nd_step (G := ofG l) hS h1 hSu)
        omega
      refine ⟨by rw [(ih u h2 h1).1, hval], fun hD => ?_⟩
      have hfind : (List.range N).find? (selP (ofG l) (needF (ofG l) N) (mk x)) = some u := by
        refine find_first _ N u h1 ?_ (fun v hv => ?_)
        · unfold selP
          rw [hSu, Bool.not_false, Bool.true_and, decide_eq_true_eq]
          have := le_mx_r (wS (ofG l) 0 x) (mx (bhN (ofG l) u (mk x) : Int) (nd (ofG l) N (sb (mk x) u)))
          rw [hval, hD] at this
          exact this
        · unfold selP
          cases hSv : (mk x).testBit v with
          | true => rfl
          | false =>
            rw [Bool.not_false, Bool.true_and, decide_eq_false_iff_not]
            have hvx := (mk_bitF hx0 v).1 hSv
            have h6 := h5 v hv hvx
            rw [(ih u h2 h1).1, (ih v hvx (by omega)).1, hval, hD] at h6
            have h7 := le_mx (wS (ofG l) 0 x) (nd (ofG l) N (mk x))
            rw [hD] at h7
            intro h8
            have h9 : mx (wS (ofG l) 0 x) (mx (bhN (ofG l) v (mk x) : Int) (nd (ofG l) N (sb (mk x) v))) ≤ nd (ofG l) N 0 := mx_le h7 h8
            omega
      show (match (List.range N).find? (selP (ofG l) (needF (ofG l) N) (mk x)) with | none => none | some v => selL (ofG l) N (needF (ofG l) N) m (sb (mk x) v) (x ++ [(v : Int)])) = _
      rw [hfind]
      exact (ih u h2 h1).2 (by rw [hval, hD])
/-- Best: the least width, the first order that has it. -/
theorem best_least {N : Nat} (hN : N ≤ 10) {l : List (List Int)} (hR : rightF (N : Int) l = true) : bestF (N : Int) l = some ((leastF (N : Int) l N []).1, (leastF (N : Int) l N []).2, 0) := by
  obtain ⟨M, hM, _, hG⟩ := right_gr hR
  obtain rfl : N = M := by omega
  have h := least_law (show N ≤ 16 by omega) hR hG N [] ⟨List.nodup_nil, fun x hx => absurd hx List.not_mem_nil, Nat.zero_le _⟩ (by simp)
  have e0 : mx (wS (ofG l) 0 []) (nd (ofG l) N (mk [])) = nd (ofG l) N 0 := by
    show mx 0 (nd (ofG l) N 0) = nd (ofG l) N 0
    have h0 : 0 ≤ nd (ofG l) N 0 := by
      have hent : ∀ S, S < 2 ^ N → 0 ≤ nd (ofG l) N S := fun S hS => by
        rcases Nat.lt_or_ge S (2 ^ N - 1) with h | h
        · have hf := needF_ent (ofG l) N S h
          unfold Ent at hf
          show 0 ≤ (needF (ofG l) N).getD S 0
          rw [hf]
          exact foldl_ge _ _ _ 0 _ _ (by omega) (fun v _ _ => Int.le_trans (Int.natCast_nonneg _) (le_mx _ _))
        · have : S = 2 ^ N - 1 := by omega
          show 0 ≤ (needF (ofG l) N).getD S 0
          rw [this, needF_full]
          exact Int.le_refl _
      exact hent 0 (Nat.two_pow_pos _)
    unfold mx
    split <;> omega
  have hs := h.2 e0
  unfold bestF
  rw [hR, if_pos rfl, if_pos (by omega), Int.toNat_natCast]
  unfold bestG
  have hs2 : selL (ofG l) N (needF (ofG l) N) N 0 [] = some (leastF (N : Int) l N []).1 := hs
  rw [hs2, h.1, e0]
  rfl
end
end Go.Proofs.Ytnnaakinchophaa.Ord
