/- The program's greedy orders and the reference's are the same, and permutations; plain lists and masks; conditions as written. -/
import Derived.Test.YtnnaakinchophaaOrdRB
import Derived.Test.YtnnaakinchophaaOrdX
namespace Go.Proofs.Ytnnaakinchophaa.Ord
set_option linter.unusedVariables false
set_option linter.unusedSimpArgs false
open Go.RowKit Go.Proofs.YtnnaakinchophaaW.PrintWords Go.Proofs.YtnnaakinchophaaW.PrintLast Go.Proofs.YtnnaakinchophaaW.PrintMore
theorem any_mem (out : List Int) (v : Int) : (out.any fun y => v == y) = decide (v ∈ out) := by
  rw [Bool.eq_iff_iff]
  simp
/-- The best so far, or none. -/
def BestP (N : Nat) (out : List Int) (b : Int) : Prop := b < 0 ∨ (0 ≤ b ∧ b < (N : Int) ∧ b ∉ out)
theorem grF_best (cf : (Nat → Nat) → Nat → Int) (N : Nat) (H : Nat → Nat) (out : List Int) : ∀ (l : List Nat) (s : Int × Int), (∀ v ∈ l, v < N) → BestP N out s.1 → BestP N out (l.foldl (grS cf H out) s).1
  | [], s, _, h => h
  | v :: r, s, hl, h => by
    rw [List.foldl_cons]
    refine grF_best cf N H out r _ (fun u hu => hl u (List.mem_cons_of_mem _ hu)) ?_
    unfold grS
    rw [any_mem]
    by_cases hm : (v : Int) ∈ out
    · rw [if_pos (decide_eq_true hm)]; exact h
    · rw [if_neg (by simp [hm])]
      split
      · have := hl v List.mem_cons_self
        exact Or.inr ⟨by show (0 : Int) ≤ (v : Int); omega, by show (v : Int) < N; omega, hm⟩
      · exact h
theorem grF_some (cf : (Nat → Nat) → Nat → Int) (H : Nat → Nat) (out : List Int) : ∀ (l : List Nat) (s : Int × Int), (0 ≤ s.1 ∨ ∃ v ∈ l, (v : Int) ∉ out) → 0 ≤ (l.foldl (grS cf H out) s).1
  | [], s, h => by
    rcases h with h | ⟨v, hv, _⟩
    · exact h
    · cases hv
  | v :: r, s, h => by
    rw [List.foldl_cons]
    refine grF_some cf H out r _ ?_
    unfold grS
    rw [any_mem]
    by_cases hm : (v : Int) ∈ out
    · rw [if_pos (decide_eq_true hm)]
      rcases h with h | ⟨u, hu, hn⟩
      · exact Or.inl h
      · rcases List.mem_cons.1 hu with rfl | hu
        · exact absurd hm hn
        · exact Or.inr ⟨u, hu, hn⟩
    · rw [if_neg (by simp [hm])]
      left
      split
      · show (0 : Int) ≤ (v : Int); omega
      · omega
theorem od_free {N : Nat} {out : List Int} (h : OdP N out) (hl : out.length < N) : ∃ v : Nat, v < N ∧ (v : Int) ∉ out := by
  apply Classical.byContradiction
  intro hx
  have := pigeon N out (fun u hu => Classical.byContradiction fun hm => hx ⟨u, hu, hm⟩)
  omega
theorem OdP.push {N : Nat} {out : List Int} (h : OdP N out) (hl : out.length < N) {b : Int} (h0 : 0 ≤ b) (h1 : b < (N : Int)) (h2 : b ∉ out) : OdP N (out ++ [b]) where
  nd := by
    rw [List.nodup_append]
    exact ⟨h.nd, by simp, fun a ha c hc e => by
      rw [List.mem_singleton] at hc
      subst hc; subst e; exact h2 ha⟩
  rg := fun x hx => by
    rcases List.mem_append.1 hx with h' | h'
    · exact h.rg x h'
    · rw [List.mem_singleton] at h'; subst h'; exact ⟨h0, h1⟩
  len := by rw [List.length_append]; simp; omega
theorem gr_best {cf : (Nat → Nat) → Nat → Int} {N : Nat} {H : Nat → Nat} {out : List Int} (h : OdP N out) (hl : out.length < N) : 0 ≤ (grI cf N H out 0 (-1, 0)).1 ∧ (grI cf N H out 0 (-1, 0)).1 < (N : Int) ∧ (grI cf N H out 0 (-1, 0)).1 ∉ out := by
  have h1 := grF_best cf N H out (List.range' 0 (N - 0)) (-1, 0) (fun v hv => by have := List.mem_range'_1.1 hv; omega) (Or.inl (by decide))
  obtain ⟨v, hv, hm⟩ := od_free h hl
  have h2 := grF_some cf H out (List.range' 0 (N - 0)) (-1, 0) (Or.inr ⟨v, List.mem_range'_1.2 (by omega), hm⟩)
  rcases h1 with h1 | h1
  · omega
  · exact h1
theorem grL_od (cf : (Nat → Nat) → Nat → Int) (N : Nat) : ∀ (m : Nat) (H : Nat → Nat) (out : List Int), OdP N out → out.length + m = N → OdP N (grL cf N m H out) ∧ (grL cf N m H out).length = N
  | 0, H, out, h, hl => ⟨h, hl⟩
  | m + 1, H, out, h, hl => by
    obtain ⟨h0, h1, h2⟩ := gr_best (cf := cf) (H := H) h (by omega)
    unfold grL
    exact grL_od cf N m _ _ (h.push (by omega) h0 h1 h2) (by rw [List.length_append]; simp; omega)
/-- A greedy order is a permutation of the variables. -/
theorem greedy_od {cf : (Nat → Nat) → Nat → Int} {n : Int} {l : List (List Int)} (h : rightF n l = true) : OdP n.toNat (greedyF cf n l).1 ∧ (greedyF cf n l).1.length = n.toNat ∧ (greedyF cf n l).2 = 0 := by
  unfold greedyF
  rw [if_pos h]
  have := grL_od cf n.toNat n.toNat (ofG l) [] ⟨List.nodup_nil, fun x hx => absurd hx List.not_mem_nil, Nat.zero_le _⟩ (by simp)
  exact ⟨this.1, this.2, rfl⟩
/-- The costs agree. -/
def CostP (b : Bool) (cf : (Nat → Nat) → Nat → Int) : Prop := ∀ N H G L v, N ≤ 16 → Sim N H G L → v < N → L.testBit v = true → cf H v = rcF b G L N v
theorem costD : CostP false cfD := fun N H G L v hN h hv hL => by
  unfold cfD rcF
  rw [if_neg (by simp), h.deg hN v (by omega) hL]
theorem costF : CostP true cfF := fun N H G L v hN h hv hL => by
  unfold cfF rcF
  rw [if_pos rfl, h.fill hN v (by omega) hL]
theorem gr_in {b : Bool} {cf : (Nat → Nat) → Nat → Int} (hc : CostP b cf) {N : Nat} (hN : N ≤ 16) {H G : Nat → Nat} {L : Nat} (h : Sim N H G L) {out : List Int} (ho : ∀ j, j < N → L.testBit j = !decide ((j : Int) ∈ out)) :
    ∀ (l : List Nat) (s : Int × Int), (∀ v ∈ l, v < N) → (s.1 < 0 ∨ ∃ u : Nat, s.1 = (u : Int) ∧ u < N ∧ L.testBit u = true ∧ s.2 = cf H u) → (l.foldl (grS cf H out) s).1 = l.foldl (rgS b G L N) s.1
  | [], s, _, _ => rfl
  | v :: r, s, hl, hs => by
    have hv := hl v List.mem_cons_self
    rw [List.foldl_cons, List.foldl_cons]
    have hr := fun u hu => hl u (List.mem_cons_of_mem v hu)
    have e1 : grS cf H out s v = if L.testBit v = true then (if s.1 < 0 ∨ cf H v < s.2 then ((v : Int), cf H v) else s) else s := by
      unfold grS
      rw [any_mem, ho v hv]
      by_cases hm : (v : Int) ∈ out <;> simp [hm]
    have e2 : rgS b G L N s.1 v = (if L.testBit v = true then (if s.1 < 0 ∨ cf H v < s.2 then ((v : Int), cf H v) else s) else s).1 := by
      unfold rgS
      by_cases hb : L.testBit v = true
      · rw [if_pos hb, if_pos hb]
        have e : (s.1 < 0 ∨ rcF b G L N v < rcF b G L N s.1.toNat) ↔ (s.1 < 0 ∨ cf H v < s.2) := by
          rcases hs with hs | ⟨u, h1, h2, h3, h4⟩
          · simp [hs]
          · rw [h4, hc N H G L v hN h hv hb, hc N H G L u hN h h2 h3, h1, Int.toNat_natCast]
        by_cases hx : s.1 < 0 ∨ cf H v < s.2
        · rw [if_pos (e.2 hx), if_pos hx]
        · rw [if_neg (fun h => hx (e.1 h)), if_neg hx]
      · rw [if_neg hb, if_neg hb]
    rw [e2, e1]
    refine gr_in hc hN h ho r _ hr ?_
    by_cases hb : L.testBit v = true
    · rw [if_pos hb]
      by_cases hx : s.1 < 0 ∨ cf H v < s.2
      · rw [if_pos hx]
        exact Or.inr ⟨v, rfl, hv, hb, rfl⟩
      · rw [if_neg hx]
        exact hs
    · rw [if_neg hb]
      exact hs
theorem gr_all {b : Bool} {cf : (Nat → Nat) → Nat → Int} (hc : CostP b cf) {N : Nat} (hN : N ≤ 16) : ∀ (m : Nat) (H G : Nat → Nat) (L : Nat) (out : List Int), Sim N H G L → (∀ j, j < N → L.testBit j = !decide ((j : Int) ∈ out)) → OdP N out → out.length + m = N → rgL b N m G L out = grL cf N m H out
  | 0, H, G, L, out, _, _, _, _ => rfl
  | m + 1, H, G, L, out, h, ho, hd, hl => by
    obtain ⟨h0, h1, h2⟩ := gr_best (cf := cf) (H := H) hd (by omega)
    have e : rgI b N G L 0 (-1) = (grI cf N H out 0 (-1, 0)).1 := by
      unfold rgI grI
      exact (gr_in hc hN h ho (List.range' 0 (N - 0)) (-1, 0) (fun v hv => by have := List.mem_range'_1.1 hv; omega) (Or.inl (by decide))).symm
    unfold rgL grL
    rw [e]
    generalize (grI cf N H out 0 (-1, 0)).1 = best at *
    obtain ⟨u, rfl⟩ := Int.eq_ofNat_of_zero_le h0
    rw [Int.toNat_natCast]
    have hu : u < N := by omega
    have hL : L.testBit u = true := by rw [ho u hu]; simp [h2]
    refine gr_all hc hN m _ _ _ _ (h.elim hN u (by omega) hL) (fun j hj => ?_) (hd.push (by omega) h0 h1 h2) (by rw [List.length_append]; simp; omega)
    rw [cb_bit L u j (by omega), ho j hj]
    by_cases hj2 : j = u
    · subst hj2; simp
    · have : ((j : Int) = (u : Int)) ↔ False := ⟨fun h => by omega, False.elim⟩
      simp [hj2, this]
theorem greedy_same {b : Bool} {cf : (Nat → Nat) → Nat → Int} (hc : CostP b cf) (n : Int) (l : List (List Int)) : rgreedyF b n l = greedyF cf n l := by
  unfold rgreedyF greedyF
  cases hR : rightF n l with
  | false => rfl
  | true =>
    have hT := rightF_true hR
    obtain ⟨N, rfl⟩ := Int.eq_ofNat_of_zero_le hT.1
    rw [Int.toNat_natCast, if_pos rfl, if_pos rfl]
    rw [gr_all hc (by omega) N (ofG l) (ofG l) (2 ^ N - 1) [] (sim_start N (by omega) l (fun x hx => (hT.2.2.2 x hx).2)) (fun j hj => by rw [Nat.testBit_two_pow_sub_one]; simp [hj]) ⟨List.nodup_nil, fun x hx => absurd hx List.not_mem_nil, Nat.zero_le _⟩ (by simp)]
theorem greedy_len {cf : (Nat → Nat) → Nat → Int} {n : Int} {l : List (List Int)} : (greedyF cf n l).1.length ≤ 16 := by
  cases hR : rightF n l with
  | false => unfold greedyF; rw [hR]; simp
  | true =>
    rw [(greedy_od hR).2.1]
    have := rightF_true hR
    omega
end Go.Proofs.Ytnnaakinchophaa.Ord
