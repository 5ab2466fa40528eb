/- The program's elimination and the reference's show the same; plain lists and masks; conditions as written. -/
import Derived.Test.YtnnaakinchophaaOrdU
namespace Go.Proofs.Ytnnaakinchophaa.Ord
set_option linter.unusedVariables false
set_option linter.unusedSimpArgs false
open Go.RowKit Go.Proofs.YtnnaakinchophaaW.PrintWords Go.Proofs.YtnnaakinchophaaW.PrintLast Go.Proofs.YtnnaakinchophaaW.PrintMore

/-- The program's masks H are the reference's matrix G cut to what is left, L. -/
structure Sim (N : Nat) (H G : Nat → Nat) (L : Nat) : Prop where
  bit : ∀ i j, i < 16 → j < 16 → (H i).testBit j = (L.testBit i && (L.testBit j && (G i).testBit j))
  left : ∀ j, L.testBit j = true → j < N
  lt : ∀ i, H i < 65536
theorem bit16 {X j : Nat} (hX : X < 65536) (h : X.testBit j = true) : j < 16 := by
  rcases Nat.lt_or_ge j 16 with h1 | h1
  · exact h1
  · rw [Nat.testBit_lt_two_pow (Nat.lt_of_lt_of_le hX (show 2 ^ 16 ≤ 2 ^ j from Nat.pow_le_pow_right (by decide) h1))] at h
    cases h
theorem range_cut (p : Nat → Bool) (k N : Nat) (hN : N ≤ 16) (hk : k ≤ N) (h : ∀ j, j < 16 → p j = true → j < N) : (List.range' k (16 - k)).filter p = (List.range' k (N - k)).filter p := by
  have e : List.range' k (16 - k) = List.range' k (N - k) ++ List.range' N (16 - N) := by
    have := List.range'_append (s := k) (m := N - k) (n := 16 - N) (step := 1)
    rw [show k + 1 * (N - k) = N by omega] at this
    rw [this]
    congr 1
    omega
  rw [e, List.filter_append]
  have : (List.range' N (16 - N)).filter p = [] := by
    apply List.filter_eq_nil_iff.2
    intro j hj hp
    obtain ⟨h1, h2⟩ := List.mem_range'_1.1 hj
    have := h j (by omega) hp
    omega
  rw [this, List.append_nil]
theorem Sim.nb {N : Nat} {H G : Nat → Nat} {L : Nat} (h : Sim N H G L) (hN : N ≤ 16) (v : Nat) (hv : v < 16) (hL : L.testBit v = true) (k : Nat) (hk : k ≤ N) : nbA G L N v k = ((List.range' k (16 - k)).filter fun j => (H v).testBit j).map fun j : Nat => (j : Int) := by
  unfold nbA
  rw [range_cut (fun j => (H v).testBit j) k N hN hk (fun j hj hp => by
    have := h.bit v j hv hj
    rw [hp, hL] at this
    simp at this
    exact h.left j this.1)]
  congr 1
  apply List.filter_congr
  intro j hj
  have hj16 : j < 16 := by have := (List.mem_range'_1.1 hj).2; omega
  rw [h.bit v j hv hj16, hL, Bool.true_and]
theorem Sim.deg {N : Nat} {H G : Nat → Nat} {L : Nat} (h : Sim N H G L) (hN : N ≤ 16) (v : Nat) (hv : v < 16) (hL : L.testBit v = true) : (Ord.nb G L N v).length = popc (H v) := by
  unfold Ord.nb popc
  rw [h.nb hN v hv hL 0 (by omega), List.length_map, List.range_eq_range']
theorem Sim.fillA {N : Nat} {H G : Nat → Nat} {L : Nat} (h : Sim N H G L) (hN : N ≤ 16) (v : Nat) (hv : v < 16) (hL : L.testBit v = true) : ∀ d k : Nat, N - k = d → k ≤ N → rfA G (nbA G L N v k) = misA H v k := by
  intro d
  induction d with
  | zero =>
    intro k hk hkN
    obtain rfl : k = N := by omega
    rw [nbA_end]
    show [] = misA H v k
    unfold misA
    symm
    apply List.flatMap_eq_nil_iff.2
    intro a ha
    obtain ⟨h1, h2⟩ := List.mem_range'_1.1 ha
    rw [if_neg]
    intro hb
    have := h.bit v a hv (by omega)
    rw [hb, hL] at this
    simp at this
    have := h.left a this.1
    omega
  | succ d ih =>
    intro k hk hkN
    have hk16 : k < 16 := by omega
    rw [nbA_step G L N v k (by omega), misA_step H v k hk16, ← ih (k + 1) (by omega) (by omega)]
    have hbk := h.bit v k hv hk16
    rw [hL, Bool.true_and] at hbk
    rw [← hbk]
    cases hb : (H v).testBit k with
    | false => rw [if_neg (by simp), if_neg (by simp)]; rfl
    | true =>
      rw [if_pos rfl, if_pos rfl]
      show rfB G (k : Int) (nbA G L N v (k + 1)) ++ rfA G (nbA G L N v (k + 1)) = _
      congr 1
      rw [hb] at hbk
      have hLk : L.testBit k = true := by
        cases hx : L.testBit k with
        | true => rfl
        | false => rw [hx] at hbk; cases hbk
      unfold rfB misB
      rw [h.nb hN v hv hL (k + 1) (by omega), List.filter_map, List.map_map, List.filter_filter]
      have e : ((fun b : Int => (((k : Nat) : Int), b)) ∘ fun j : Nat => (j : Int)) = pr k := rfl
      rw [e]
      congr 1
      apply List.filter_congr
      intro j hj
      have hj16 : j < 16 := by have := (List.mem_range'_1.1 hj).2; omega
      show (!(G ((k : Nat) : Int).toNat).testBit ((j : Nat) : Int).toNat && (H v).testBit j) = ((H v).testBit j && !(H k).testBit j)
      rw [Int.toNat_natCast, Int.toNat_natCast, h.bit k j hk16 hj16, hLk, Bool.true_and]
      cases hvj : (H v).testBit j with
      | false => simp
      | true =>
        have := h.bit v j hv hj16
        rw [hvj, hL] at this
        simp at this
        rw [this.1]
        simp
theorem Sim.fill {N : Nat} {H G : Nat → Nat} {L : Nat} (h : Sim N H G L) (hN : N ≤ 16) (v : Nat) (hv : v < 16) (hL : L.testBit v = true) : rfill G L N v = mis H v := h.fillA hN v hv hL N 0 (by omega) (by omega)
theorem cutF_bit (H : Nat → Nat) (v i j : Nat) (hi : i < 16) (hj : j < 16) : (cutF H v i).testBit j = ((H i).testBit j && (!decide (i = v) && !decide (j = v))) := by
  unfold cutF up cutG
  by_cases e : i = v
  · rw [if_pos e, Nat.zero_testBit]
    simp [e]
  · rw [if_neg e, if_pos hi, cb_bit _ _ _ (by omega)]
    simp [e]
theorem Sim.add {N : Nat} {H G : Nat → Nat} {L : Nat} (h : Sim N H G L) (a b : Nat) (ha : a < 16) (hb : b < 16) (hLa : L.testBit a = true) (hLb : L.testBit b = true) : Sim N (up H a (sb (H a) b)) (up G a (sb (G a) b)) L where
  bit := fun i j hi hj => by
    unfold up
    by_cases e : i = a
    · rw [if_pos e, if_pos e, sb_bit, sb_bit, h.bit a j ha hj, e, hLa]
      by_cases e2 : j = b
      · rw [e2, hLb]; simp
      · simp [e2]
    · rw [if_neg e, if_neg e]
      exact h.bit i j hi hj
  left := h.left
  lt := up_lt h.lt (sb_lt (h.lt a) hb) a
theorem Sim.addL_ {N : Nat} {L : Nat} : ∀ (ps : List (Int × Int)) {H G : Nat → Nat}, Sim N H G L → (∀ p ∈ ps, ∃ a b : Nat, a < 16 ∧ b < 16 ∧ p = pr a b ∧ L.testBit a = true ∧ L.testBit b = true) → Sim N (addL H ps) (addL G ps) L
  | [], _, _, h, _ => h
  | p :: r, H, G, h, hp => by
    obtain ⟨a, b, ha, hb, rfl, hLa, hLb⟩ := hp p List.mem_cons_self
    exact Sim.addL_ r ((h.add a b ha hb hLa hLb).add b a hb ha hLb hLa) (fun q hq => hp q (List.mem_cons_of_mem _ hq))
theorem Sim.cut {N : Nat} {H G : Nat → Nat} {L : Nat} (h : Sim N H G L) (hN : N ≤ 16) (v : Nat) : Sim N (cutF H v) G (cb L v) where
  bit := fun i j hi hj => by
    rw [cutF_bit H v i j hi hj, h.bit i j hi hj, cb_bit L v i (by omega), cb_bit L v j (by omega)]
    cases L.testBit i <;> cases L.testBit j <;> cases (G i).testBit j <;> simp
  left := fun j hj => by
    rcases Nat.lt_or_ge j 32 with h1 | h1
    · rw [cb_bit L v j h1, Bool.and_eq_true] at hj
      exact h.left j hj.1
    · unfold cb at hj
      rw [Nat.testBit_and, Bool.and_eq_true] at hj
      exact h.left j hj.1
  lt := cutF_lt h.lt v
theorem Sim.elim {N : Nat} {H G : Nat → Nat} {L : Nat} (h : Sim N H G L) (hN : N ≤ 16) (v : Nat) (hv : v < 16) (hL : L.testBit v = true) : Sim N (elimF H v) (addL G (rfill G L N v)) (cb L v) := by
  unfold elimF
  rw [← h.fill hN v hv hL]
  refine (h.addL_ _ (fun p hp => ?_)).cut hN v
  obtain ⟨a, b, h1, h2, h3, h4, h5, _⟩ := rfill_mem hp
  exact ⟨a, b, by omega, by omega, h3, h4, h5⟩
/-- What is left is what isn't seen. -/
theorem sim_play (N : Nat) (hN : N ≤ 16) : ∀ (o : List Int) (H G : Nat → Nat) (L seen : Nat) (w : Int) (f : List (Int × Int)), Sim N H G L → (∀ j, j < N → L.testBit j = !seen.testBit j) → (alL N seen o).isSome = true → rplL N G L w f o = plL H w f o
  | [], _, _, _, _, _, _, _, _, _ => rfl
  | v :: r, H, G, L, seen, w, f, h, hs, ha => by
    unfold alL at ha
    by_cases hx : v < 0 ∨ (N : Int) ≤ v
    · rw [if_pos hx] at ha; cases ha
    · rw [if_neg hx] at ha
      obtain ⟨u, rfl⟩ := Int.eq_ofNat_of_zero_le (show 0 ≤ v by omega)
      have hu : u < N := by omega
      rw [Int.toNat_natCast] at ha
      cases hb : seen.testBit u with
      | true => rw [hb, if_pos rfl] at ha; cases ha
      | false =>
        rw [hb, if_neg (by simp)] at ha
        have hL : L.testBit u = true := by rw [hs u hu, hb]; rfl
        have hu16 : u < 16 := by omega
        rw [rplL_cons]
        show _ = plL (elimF H u) (mx w (popc (H u) : Int)) (f ++ mis H u) r
        have h' := h.elim hN u hu16 hL
        rw [h.deg hN u hu16 hL]
        have hf := h.fill hN u hu16 hL
        rw [hf] at h' ⊢
        refine sim_play N hN r _ _ _ (sb seen u) _ _ h' (fun j hj => ?_) ha
        rw [cb_bit L u j (by omega), sb_bit, hs j hj]
        simp
/-- A graph of scopes has its bits among the variables. -/
def Bnd (N : Nat) (G : Nat → Nat) : Prop := ∀ i j, (G i).testBit j = true → i < N ∧ j < N
theorem bnd3 {N : Nat} (a : Int) (ha : 0 ≤ a ∧ a < (N : Int)) : ∀ (x : List Int) (G : Nat → Nat), Bnd N G → (∀ b ∈ x, 0 ≤ b ∧ b < (N : Int)) → Bnd N (of3 G a x)
  | [], G, hG, _ => hG
  | b :: r, G, hG, hx => by
    unfold of3
    have hb := hx b List.mem_cons_self
    refine bnd3 a ha r _ ?_ (fun b hb => hx b (List.mem_cons_of_mem _ hb))
    split
    · exact hG
    · intro i j hj
      unfold up at hj
      split at hj
      · rename_i e
        rw [sb_bit, Bool.or_eq_true, decide_eq_true_eq] at hj
        rcases hj with hj | hj
        · have := hG _ _ hj; omega
        · omega
      · exact hG i j hj
theorem bnd2 {N : Nat} (x : List Int) (hx : ∀ b ∈ x, 0 ≤ b ∧ b < (N : Int)) : ∀ (y : List Int) (G : Nat → Nat), Bnd N G → (∀ b ∈ y, 0 ≤ b ∧ b < (N : Int)) → Bnd N (of2 G x y)
  | [], G, hG, _ => hG
  | a :: r, G, hG, hy => bnd2 x hx r _ (bnd3 a (hy a List.mem_cons_self) x G hG hx) (fun b hb => hy b (List.mem_cons_of_mem _ hb))
theorem bnd1 {N : Nat} : ∀ (l : List (List Int)) (G : Nat → Nat), Bnd N G → (∀ x ∈ l, ∀ v ∈ x, 0 ≤ v ∧ v < (N : Int)) → Bnd N (of1 G l)
  | [], G, hG, _ => hG
  | x :: r, G, hG, hl => bnd1 r _ (bnd2 x (hl x List.mem_cons_self) x G hG (hl x List.mem_cons_self)) (fun y hy => hl y (List.mem_cons_of_mem _ hy))
theorem sim_start (N : Nat) (hN : N ≤ 16) (l : List (List Int)) (hl : ∀ x ∈ l, ∀ v ∈ x, 0 ≤ v ∧ v < (N : Int)) : Sim N (ofG l) (ofG l) (2 ^ N - 1) where
  bit := fun i j hi hj => by
    rw [Nat.testBit_two_pow_sub_one, Nat.testBit_two_pow_sub_one]
    cases hb : (ofG l i).testBit j with
    | false => simp
    | true =>
      have := bnd1 l (fun _ => 0) (fun i j h => by rw [Nat.zero_testBit] at h; cases h) hl i j hb
      simp [this.1, this.2]
  left := fun j hj => by
    rw [Nat.testBit_two_pow_sub_one, decide_eq_true_eq] at hj
    exact hj
  lt := ofG_lt l (fun x hx v hv => by have := hl x hx v hv; omega)
/-- Eliminating in an order shows the same here and there. -/
theorem played_same (n : Int) (l : List (List Int)) (o : List Int) : playedR n l o = playedF n l o := by
  unfold playedR playedF
  cases hR : rightF n l with
  | false => rfl
  | true =>
    cases hA : allF n o with
    | false => rfl
    | true =>
      have hT := rightF_true hR
      obtain ⟨N, rfl⟩ := Int.eq_ofNat_of_zero_le hT.1
      rw [Int.toNat_natCast]
      have h1 : (alL N 0 o).isSome = true := by
        unfold allF at hA
        rw [Bool.and_eq_true] at hA
        exact hA.1
      rw [sim_play N (by omega) o _ _ _ 0 0 [] (sim_start N (by omega) l (fun x hx => (hT.2.2.2 x hx).2)) (fun j hj => by rw [Nat.testBit_two_pow_sub_one, Nat.zero_testBit]; simp [hj]) h1]
end Go.Proofs.Ytnnaakinchophaa.Ord
