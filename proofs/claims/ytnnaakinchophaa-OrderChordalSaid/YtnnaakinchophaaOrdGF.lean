/- The fill of an order makes the graph chordal, with that order and that width; orders without fill and Chordal; plain masks; conditions as written. -/
import Derived.Test.YtnnaakinchophaaOrdGA
namespace Go.Proofs.Ytnnaakinchophaa.Ord
set_option linter.unusedVariables false
set_option linter.unusedSimpArgs false
open Go.RowKit Go.Proofs.YtnnaakinchophaaW.PrintWords Go.Proofs.YtnnaakinchophaaW.PrintLast Go.Proofs.YtnnaakinchophaaW.PrintMore
/-- The fill of an order. -/
def flR : (Nat → Nat) → List Int → List (Int × Int)
  | _, [] => []
  | H, v :: r => mis H v.toNat ++ flR (elimF H v.toNat) r
/-- The width of an order. -/
def wdR : (Nat → Nat) → List Int → Int
  | _, [] => 0
  | H, v :: r => mx (popc (H v.toNat) : Int) (wdR (elimF H v.toNat) r)
theorem mx_assoc (a b c : Int) : mx (mx a b) c = mx a (mx b c) := by
  unfold mx
  repeat' split
  all_goals omega
theorem wdR_nonneg : ∀ (o : List Int) (H : Nat → Nat), 0 ≤ wdR H o
  | [], _ => Int.le_refl _
  | v :: r, H => by
    have := wdR_nonneg r (elimF H v.toNat)
    unfold wdR mx
    split <;> omega
theorem plL_eq : ∀ (o : List Int) (H : Nat → Nat) (w : Int) (f : List (Int × Int)), 0 ≤ w → plL H w f o = (mx w (wdR H o), f ++ flR H o)
  | [], H, w, f, hw => by
    show (w, f) = _
    unfold wdR flR mx
    rw [if_neg (by omega), List.append_nil]
  | v :: r, H, w, f, hw => by
    show plL (elimF H v.toNat) (mx w (popc (H v.toNat) : Int)) (f ++ mis H v.toNat) r = _
    rw [plL_eq r _ _ _ (Int.le_trans hw (le_mx _ _)), mx_assoc, List.append_assoc]
    rfl
theorem played_eq {n : Int} {l : List (List Int)} {o : List Int} (hR : rightF n l = true) (hA : allF n o = true) : playedF n l o = (wdR (ofG l) o, flR (ofG l) o, 0) := by
  unfold playedF
  rw [hR, hA, plL_eq o _ 0 [] (Int.le_refl _)]
  have := wdR_nonneg o (ofG l)
  have e : mx 0 (wdR (ofG l) o) = wdR (ofG l) o := by unfold mx; split <;> omega
  simp [e]
/-- An order of what is written. -/
def Ran (N : Nat) (o : List Int) : Prop := ∀ v ∈ o, 0 ≤ v ∧ v < (N : Int)
theorem Ran.head {N : Nat} {v : Int} {r : List Int} (h : Ran N (v :: r)) : ∃ u : Nat, v = (u : Int) ∧ u < N := ⟨v.toNat, by have := h v List.mem_cons_self; omega, by have := h v List.mem_cons_self; omega⟩
theorem Ran.tail {N : Nat} {v : Int} {r : List Int} (h : Ran N (v :: r)) : Ran N r := fun x hx => h x (List.mem_cons_of_mem _ hx)
theorem flR_mem {N : Nat} (hN : N ≤ 16) : ∀ (o : List Int) (H : Nat → Nat) (p : Int × Int), Gr N H → Ran N o → p ∈ flR H o → ∃ a b : Nat, p = pr a b ∧ a < b ∧ b < N
  | [], _, _, _, _, hp => by cases hp
  | v :: r, H, p, h, hR, hp => by
    rcases List.mem_append.1 hp with hp | hp
    · obtain ⟨a, b, h1, h2, h3, h4, h5, _⟩ := mis_mem hp
      exact ⟨a, b, h3, h1, h.bnd _ _ h5⟩
    · exact flR_mem hN r _ p (h.elim hN _) hR.tail hp
theorem flR_pr {N : Nat} (hN : N ≤ 16) {o : List Int} {H : Nat → Nat} (h : Gr N H) (hR : Ran N o) : ∀ p ∈ flR H o, ∃ a b : Nat, p = pr a b := fun p hp => by
  obtain ⟨a, b, h1, _⟩ := flR_mem hN o H p h hR hp
  exact ⟨a, b, h1⟩
/-- Nothing falls to a variable without neighbors. -/
theorem flR_lone {N : Nat} (hN : N ≤ 16) (v : Nat) : ∀ (o : List Int) (H : Nat → Nat) (a b : Nat), Gr N H → (∀ j, (H v).testBit j = false) → pr a b ∈ flR H o → a ≠ v ∧ b ≠ v
  | [], _, _, _, _, _, hp => by cases hp
  | u :: r, H, a, b, h, hv, hp => by
    rcases List.mem_append.1 hp with hp | hp
    · obtain ⟨h1, h2, h3, h4, h5⟩ := mis_iff.1 hp
      constructor
      · intro e
        have := h.sym _ _ h3
        rw [e, hv] at this
        cases this
      · intro e
        have := h.sym _ _ h4
        rw [e, hv] at this
        cases this
    · refine flR_lone hN v r _ a b (h.elim hN _) (fun j => ?_) hp
      cases hb : (elimF H u.toNat v).testBit j with
      | false => rfl
      | true =>
        rw [elim_bit h hN] at hb
        rcases hb.2.2 with h3 | ⟨_, h3, _⟩
        · rw [hv] at h3; cases h3
        · have := h.sym _ _ h3
          rw [hv] at this
          cases this
theorem addL_gr {N : Nat} {H : Nat → Nat} (h : Gr N H) {ps : List (Int × Int)} (hp : ∀ p ∈ ps, ∃ a b : Nat, p = pr a b ∧ a < b ∧ b < N) : Gr N (addL H ps) := by
  have hpr : ∀ p ∈ ps, ∃ a b : Nat, p = pr a b := fun p h => by
    obtain ⟨a, b, h1, _⟩ := hp p h
    exact ⟨a, b, h1⟩
  have hlt : ∀ a b, pr a b ∈ ps → a < b ∧ b < N := fun a b h => by
    obtain ⟨c, d, h1, h2, h3⟩ := hp _ h
    obtain ⟨rfl, rfl⟩ := pr_eq.1 h1
    exact ⟨h2, h3⟩
  refine ⟨fun i j hb => ?_, fun i => ?_, fun i j hb => ?_⟩
  · rw [addL_bit _ _ _ _ hpr] at hb ⊢
    rcases hb with hb | hb | hb
    · exact Or.inl (h.sym _ _ hb)
    · exact Or.inr (Or.inr hb)
    · exact Or.inr (Or.inl hb)
  · cases hb : (addL H ps i).testBit i with
    | false => rfl
    | true =>
      rw [addL_bit _ _ _ _ hpr] at hb
      rcases hb with hb | hb | hb
      · rw [h.irr] at hb; cases hb
      · have := hlt _ _ hb; omega
      · have := hlt _ _ hb; omega
  · rw [addL_bit _ _ _ _ hpr] at hb
    rcases hb with hb | hb | hb
    · exact h.bnd _ _ hb
    · exact (hlt _ _ hb).2
    · have := hlt _ _ hb; omega
/-- With its fill an order has no fill, and the same width. -/
theorem fill_none {N : Nat} (hN : N ≤ 16) : ∀ (o : List Int) (H : Nat → Nat), Gr N H → Ran N o → flR (addL H (flR H o)) o = [] ∧ wdR (addL H (flR H o)) o = wdR H o
  | [], _, _, _ => ⟨rfl, rfl⟩
  | v :: r, H, h, hR => by
    obtain ⟨v, rfl, hv⟩ := hR.head
    have hE := h.elim hN v
    have hF := flR_pr hN hE hR.tail
    have hps := flR_pr hN h hR
    have hG := addL_gr h (fun p hp => flR_mem hN _ H p h hR hp)
    have hlone : ∀ a b, pr a b ∈ flR (elimF H v) r → a ≠ v ∧ b ≠ v := fun a b hp => flR_lone hN v r _ a b hE (fun j => by
      cases hb : (elimF H v v).testBit j with
      | false => rfl
      | true => rw [elim_bit h hN] at hb; exact absurd rfl hb.1) hp
    have hfl : flR H ((v : Int) :: r) = mis H v ++ flR (elimF H v) r := rfl
    have hP : ∀ i j, (addL H (flR H ((v : Int) :: r)) i).testBit j = true ↔ (H i).testBit j = true ∨ (pr i j ∈ mis H v ∨ pr i j ∈ flR (elimF H v) r) ∨ (pr j i ∈ mis H v ∨ pr j i ∈ flR (elimF H v) r) := fun i j => by
      rw [addL_bit _ _ _ _ hps, hfl, List.mem_append, List.mem_append]
    have hrow : ∀ j, (addL H (flR H ((v : Int) :: r)) v).testBit j = true ↔ (H v).testBit j = true := fun j => by
      rw [hP]
      constructor
      · rintro (hb | (hb | hb) | (hb | hb))
        · exact hb
        · have := (mis_iff.1 hb).2.2.1
          rw [h.irr] at this; cases this
        · exact absurd rfl (hlone _ _ hb).1
        · have := (mis_iff.1 hb).2.2.2.1
          rw [h.irr] at this; cases this
        · exact absurd rfl (hlone _ _ hb).2
      · exact Or.inl
    have hclique : ∀ i j, i ≠ j → (H v).testBit i = true → (H v).testBit j = true → (addL H (flR H ((v : Int) :: r)) i).testBit j = true := fun i j hne hi hj => by
      rw [hP]
      by_cases hb : (H i).testBit j = true
      · exact Or.inl hb
      · right
        rw [Bool.not_eq_true] at hb
        have hi16 := h.bnd _ _ hi
        have hj16 := h.bnd _ _ hj
        rcases Nat.lt_or_ge i j with hlt | hge
        · exact Or.inl (Or.inl (mis_iff.2 ⟨hlt, by omega, hi, hj, hb⟩))
        · refine Or.inr (Or.inl (mis_iff.2 ⟨by omega, by omega, hj, hi, ?_⟩))
          cases hb2 : (H j).testBit i with
          | false => rfl
          | true => rw [h.sym _ _ hb2] at hb; cases hb
    have hmis : mis (addL H (flR H ((v : Int) :: r))) v = [] := by
      apply List.eq_nil_iff_forall_not_mem.2
      intro p hp
      obtain ⟨a, b, h1, h2, rfl, h4, h5, h6⟩ := mis_mem hp
      rw [hclique a b (by omega) ((hrow a).1 h4) ((hrow b).1 h5)] at h6
      cases h6
    have hnext : elimF (addL H (flR H ((v : Int) :: r))) v = addL (elimF H v) (flR (elimF H v) r) := by
      apply masks_ext
      intro i j
      rw [elim_bit hG hN, addL_bit _ _ _ _ hF, elim_bit h hN, hrow, hrow]
      constructor
      · rintro ⟨h1, h2, h3 | h3⟩
        · rw [hP] at h3
          rcases h3 with h3 | (h3 | h3) | (h3 | h3)
          · exact Or.inl ⟨h1, h2, Or.inl h3⟩
          · have := mis_iff.1 h3
            exact Or.inl ⟨h1, h2, Or.inr ⟨by omega, this.2.2.1, this.2.2.2.1⟩⟩
          · exact Or.inr (Or.inl h3)
          · have := mis_iff.1 h3
            exact Or.inl ⟨h1, h2, Or.inr ⟨by omega, this.2.2.2.1, this.2.2.1⟩⟩
          · exact Or.inr (Or.inr h3)
        · exact Or.inl ⟨h1, h2, Or.inr h3⟩
      · rintro (⟨h1, h2, h3⟩ | h3 | h3)
        · refine ⟨h1, h2, ?_⟩
          rcases h3 with h3 | h3
          · exact Or.inl ((hP i j).2 (Or.inl h3))
          · exact Or.inr h3
        · have := hlone _ _ h3
          exact ⟨this.1, this.2, Or.inl ((hP i j).2 (Or.inr (Or.inl (Or.inr h3))))⟩
        · have := hlone _ _ h3
          exact ⟨this.2, this.1, Or.inl ((hP i j).2 (Or.inr (Or.inr (Or.inr h3))))⟩
    have hrw : addL H (flR H ((v : Int) :: r)) v = H v := by
      apply Nat.eq_of_testBit_eq
      intro j
      rw [Bool.eq_iff_iff]
      exact hrow j
    have ih := fill_none hN r (elimF H v) hE hR.tail
    constructor
    · show mis (addL H (flR H ((v : Int) :: r))) v ++ flR (elimF (addL H (flR H ((v : Int) :: r))) v) r = []
      rw [hmis, hnext, ih.1]
      rfl
    · show mx (popc (addL H (flR H ((v : Int) :: r)) v) : Int) (wdR (elimF (addL H (flR H ((v : Int) :: r))) v) r) = mx (popc (H v) : Int) (wdR (elimF H v) r)
      rw [hrw, hnext, ih.2]
/-- Scopes and pairs. -/
theorem ofG_pairs {N : Nat} {l : List (List Int)} (hl : ∀ x ∈ l, ∀ b ∈ x, 0 ≤ b ∧ b < (N : Int)) (ps : List (Int × Int)) (hp : ∀ p ∈ ps, ∃ a b : Nat, p = pr a b ∧ a < b ∧ b < N) : ofG (l ++ ps.map fun p => [p.1, p.2]) = addL (ofG l) ps := by
  have hpr : ∀ p ∈ ps, ∃ a b : Nat, p = pr a b := fun p h => by
    obtain ⟨a, b, h1, _⟩ := hp p h
    exact ⟨a, b, h1⟩
  have hl0 : ∀ x ∈ l, ∀ b ∈ x, 0 ≤ b := fun x hx b hb => (hl x hx b hb).1
  have hl1 : ∀ x ∈ l ++ ps.map fun p => [p.1, p.2], ∀ b ∈ x, 0 ≤ b := fun x hx b hb => by
    rcases List.mem_append.1 hx with hx | hx
    · exact hl0 x hx b hb
    · obtain ⟨p, hp1, rfl⟩ := List.mem_map.1 hx
      obtain ⟨c, d, rfl, _⟩ := hp p hp1
      simp only [pr, List.mem_cons, List.not_mem_nil, or_false] at hb
      omega
  apply masks_ext
  intro i j
  rw [addL_bit _ _ _ _ hpr, ofG_bit hl1, ofG_bit hl0]
  constructor
  · rintro ⟨h1, x, hx, h2, h3⟩
    rcases List.mem_append.1 hx with hx | hx
    · exact Or.inl ⟨h1, x, hx, h2, h3⟩
    · obtain ⟨p, hp1, rfl⟩ := List.mem_map.1 hx
      obtain ⟨c, d, rfl, h4, h5⟩ := hp p hp1
      simp only [pr, List.mem_cons, List.not_mem_nil, or_false] at h2 h3
      right
      rcases h2 with h2 | h2 <;> rcases h3 with h3 | h3
      · omega
      · left
        have e : pr i j = pr c d := pr_eq.2 ⟨by omega, by omega⟩
        rw [e]; exact hp1
      · right
        have e : pr j i = pr c d := pr_eq.2 ⟨by omega, by omega⟩
        rw [e]; exact hp1
      · omega
  · rintro (⟨h1, x, hx, h2, h3⟩ | h | h)
    · exact ⟨h1, x, List.mem_append_left _ hx, h2, h3⟩
    · obtain ⟨c, d, h1, h4, h5⟩ := hp _ h
      obtain ⟨rfl, rfl⟩ := pr_eq.1 h1
      exact ⟨by omega, _, List.mem_append_right _ (List.mem_map.2 ⟨_, h, rfl⟩), by simp [pr], by simp [pr]⟩
    · obtain ⟨c, d, h1, h4, h5⟩ := hp _ h
      obtain ⟨rfl, rfl⟩ := pr_eq.1 h1
      exact ⟨by omega, _, List.mem_append_right _ (List.mem_map.2 ⟨_, h, rfl⟩), by simp [pr], by simp [pr]⟩
/-- Where an order has no fill, what is left always has one whose neighbors are a clique. -/
theorem peo_first {N : Nat} (hN : N ≤ 16) (G : Nat → Nat) (L : Nat) : ∀ (o : List Int) (H : Nat → Nat), Gr N H → Ran N o → flR H o = [] → (∃ j, j < N ∧ L.testBit j = true) → (∀ j, j < N → L.testBit j = true → (j : Int) ∈ o) →
    (∀ i j, L.testBit i = true → L.testBit j = true → ((G i).testBit j = true ↔ (H i).testBit j = true)) → ∃ u, u < N ∧ rchT N G L u = true
  | [], _, _, _, _, ⟨j, hj, hL⟩, ho, _ => absurd (ho j hj hL) List.not_mem_nil
  | v :: r, H, h, hR, hf, hne, ho, hs => by
    obtain ⟨v, rfl, hv⟩ := hR.head
    obtain ⟨hm, hf2⟩ := List.append_eq_nil_iff.1 hf
    have hm2 : mis H v = [] := hm
    have hcl : ∀ i j, i ≠ j → (H v).testBit i = true → (H v).testBit j = true → (H i).testBit j = true := fun i j hne hi hj => by
      cases hb : (H i).testBit j with
      | true => rfl
      | false =>
        have hi16 := h.bnd _ _ hi
        have hj16 := h.bnd _ _ hj
        rcases Nat.lt_or_ge i j with hlt | hge
        · have : pr i j ∈ mis H v := mis_iff.2 ⟨hlt, by omega, hi, hj, hb⟩
          rw [hm2] at this; cases this
        · have : pr j i ∈ mis H v := mis_iff.2 ⟨by omega, by omega, hj, hi, by
            cases hb2 : (H j).testBit i with
            | false => rfl
            | true => rw [h.sym _ _ hb2] at hb; cases hb⟩
          rw [hm2] at this; cases this
    by_cases hLv : L.testBit v = true
    · refine ⟨v, hv, ?_⟩
      unfold rchT
      rw [hLv]
      have : rfill G L N v = [] := by
        apply List.eq_nil_iff_forall_not_mem.2
        intro p hp
        obtain ⟨a, b, h1, h2, h3, h4, h5, h6, h7, h8⟩ := rfill_mem hp
        have ha := (hs v a hLv h4).1 h6
        have hb := (hs v b hLv h5).1 h7
        rw [(hs a b h4 h5).2 (hcl a b (by omega) ha hb)] at h8
        cases h8
      rw [this]
      rfl
    · refine peo_first hN G L r (elimF H v) (h.elim hN v) hR.tail hf2 hne (fun j hj hL => ?_) (fun i j hi hj => ?_)
      · rcases List.mem_cons.1 (ho j hj hL) with e | e
        · have : j = v := by omega
          rw [this] at hL; exact absurd hL hLv
        · exact e
      · rw [elim_bit h hN, hs i j hi hj]
        constructor
        · intro hb
          exact ⟨fun e => hLv (e ▸ hi), fun e => hLv (e ▸ hj), Or.inl hb⟩
        · rintro ⟨_, _, hb | ⟨hne, h3, h4⟩⟩
          · exact hb
          · exact hcl i j hne h3 h4
theorem rchI_spec {N : Nat} {G : Nat → Nat} {L : Nat} : ∀ (d k : Nat), N - k = d → k ≤ N → (∃ u, k ≤ u ∧ u < N ∧ rchT N G L u = true) → ∃ u, rchI N G L k = some u ∧ u < N ∧ L.testBit u = true := by
  intro d
  induction d with
  | zero => rintro k hd hk ⟨u, h1, h2, _⟩; omega
  | succ d ih =>
    rintro k hd hk ⟨u, h1, h2, h3⟩
    rw [rchI_step N G L k (by omega)]
    by_cases hT : rchT N G L k = true
    · rw [if_pos hT]
      refine ⟨k, rfl, by omega, ?_⟩
      unfold rchT at hT
      rw [Bool.and_eq_true] at hT
      exact hT.1
    · rw [if_neg hT]
      refine ih (k + 1) (by omega) (by omega) ⟨u, ?_, h2, h3⟩
      rcases Nat.eq_or_lt_of_le h1 with e | e
      · rw [← e] at h3; exact absurd h3 hT
      · omega
theorem rch_peo {N : Nat} (hN : N ≤ 16) {G : Nat → Nat} (h : Gr N G) {o : List Int} (hR : Ran N o) (hf : flR G o = []) (ho : ∀ j : Nat, j < N → (j : Int) ∈ o) : ∀ (m L : Nat), (leftL N L).length = m → rchL N G m L = true
  | 0, _, _ => rfl
  | m + 1, L, hm => by
    have hne : ∃ j, j < N ∧ L.testBit j = true := by
      cases hl : leftL N L with
      | nil => rw [hl] at hm; cases hm
      | cons x r =>
        have : x ∈ leftL N L := by rw [hl]; exact List.mem_cons_self
        obtain ⟨j, _, h1, h2⟩ := leftL_mem.1 this
        exact ⟨j, h1, h2⟩
    obtain ⟨u, hu, hT⟩ := peo_first hN G L o G h hR hf hne (fun j hj _ => ho j hj) (fun i j _ _ => Iff.rfl)
    obtain ⟨v, hI, hv, hL⟩ := rchI_spec (N - 0) 0 rfl (by omega) ⟨u, by omega, hu, hT⟩
    show (match rchI N G L 0 with | none => false | some v => rchL N G m (cb L v)) = true
    rw [hI]
    have hmem : (v : Int) ∈ leftL N L := leftL_mem.2 ⟨v, rfl, hv, hL⟩
    refine rch_peo hN h hR hf ho m (cb L v) ?_
    rw [← leftL_erase hN hv, List.length_erase_of_mem hmem, hm]
    rfl
theorem nodup_len : ∀ (l m : List Int), l.Nodup → (∀ x ∈ l, x ∈ m) → l.length ≤ m.length
  | [], _, _, _ => Nat.zero_le _
  | x :: r, m, hn, hm => by
    obtain ⟨h1, h2⟩ := List.nodup_cons.1 hn
    have hx := hm x List.mem_cons_self
    have := nodup_len r (m.erase x) h2 (fun y hy => (List.mem_erase_of_ne (fun e => h1 (by rw [← e]; exact hy))).2 (hm y (List.mem_cons_of_mem _ hy)))
    rw [List.length_erase_of_mem hx] at this
    have := List.length_pos_of_mem hx
    simp only [List.length_cons]
    omega
theorem od_all {N : Nat} {o : List Int} (h : OdP N o) (hl : o.length = N) (j : Nat) (hj : j < N) : (j : Int) ∈ o := by
  apply Classical.byContradiction
  intro hn
  have := nodup_len ((j : Int) :: o) (idL N) (List.nodup_cons.2 ⟨hn, h.nd⟩) (fun x hx => by
    rcases List.mem_cons.1 hx with rfl | hx
    · exact idL_mem.2 ⟨by omega, by omega⟩
    · exact idL_mem.2 (h.rg x hx))
  rw [idL_len, List.length_cons, hl] at this
  omega
theorem right_gr {n : Int} {l : List (List Int)} (h : rightF n l = true) : ∃ N : Nat, n = (N : Int) ∧ N ≤ 16 ∧ Gr N (ofG l) := by
  have hT := rightF_true h
  obtain ⟨N, rfl⟩ := Int.eq_ofNat_of_zero_le hT.1
  exact ⟨N, rfl, by omega, ofG_gr (fun x hx => (hT.2.2.2 x hx).2)⟩
/-- Some order without fill: Chordal says so. -/
theorem chord_of_order {N : Nat} {l : List (List Int)} {o : List Int} (hR : rightF (N : Int) l = true) (ho : OdP N o) (hl : o.length = N) (hf : flR (ofG l) o = []) : chordF (N : Int) l = (true, 0) := by
  have hT := rightF_true hR
  rw [← chord_same]
  unfold rchordF
  rw [hR, if_pos rfl, Int.toNat_natCast, rch_peo (show N ≤ 16 by omega) (ofG_gr (fun x hx => (hT.2.2.2 x hx).2)) ho.rg hf (od_all ho hl) N (2 ^ N - 1) (by rw [leftL_all, idL_len])]
/-- Chordal says so: the order of MinFill has no fill. -/
theorem chord_order {N : Nat} {l : List (List Int)} (hR : rightF (N : Int) l = true) (hc : (chordF (N : Int) l).1 = true) : flR (ofG l) (greedyF cfF (N : Int) l).1 = [] := by
  have hgo := greedy_od (cf := cfF) hR
  rw [Int.toNat_natCast] at hgo
  unfold chordF at hc
  rw [hR, if_pos rfl, played_eq hR (allF_od hgo.1 hgo.2.1)] at hc
  exact List.length_eq_zero_iff.1 (of_decide_eq_true hc)
theorem rightF_mk {n : Int} {l : List (List Int)} (h0 : 0 ≤ n) (h1 : n ≤ 16) (h2 : l.length ≤ 1000) (h3 : ∀ x ∈ l, x.length ≤ 100 ∧ ∀ v ∈ x, 0 ≤ v ∧ v < n) : rightF n l = true := by
  unfold rightF
  rw [Bool.and_eq_true, decide_eq_true_eq, Bool.not_eq_true', List.any_eq_false]
  refine ⟨⟨h0, h1, h2⟩, fun x hx => ?_⟩
  have h4 := h3 x hx
  unfold offR
  rw [Bool.or_eq_true, not_or, decide_eq_true_eq]
  refine ⟨by omega, ?_⟩
  have : x.any (offB n) = false := List.any_eq_false.2 (fun v hv => by
    unfold offB
    rw [decide_eq_true_eq]
    have := h4.2 v hv
    omega)
  rw [this]
  simp
theorem flat_len {β : Type} (g : Nat → List β) (p : Nat → Bool) (M : Nat) : ∀ (l : List Nat), (∀ a ∈ l, (g a).length ≤ if p a = true then M else 0) → (l.flatMap g).length ≤ (l.filter p).length * M
  | [], _ => by simp
  | a :: r, h => by
    have ih := flat_len g p M r (fun b hb => h b (List.mem_cons_of_mem _ hb))
    have ha := h a List.mem_cons_self
    rw [List.flatMap_cons, List.length_append, List.filter_cons]
    cases hp : p a with
    | true =>
      rw [hp, if_pos rfl] at ha
      simp only [if_true, List.length_cons]
      rw [Nat.add_mul]
      omega
    | false =>
      rw [hp, if_neg (by simp)] at ha
      simp only [Bool.false_eq_true, if_false]
      omega
theorem count_lt : ∀ N, N < 17 → ((List.range' 0 16).filter fun a => decide (a < N)).length ≤ N := by decide
theorem filter_sub (p q : Nat → Bool) (h : ∀ a, p a = true → q a = true) : ∀ l : List Nat, (l.filter p).length ≤ (l.filter q).length
  | [] => Nat.le_refl _
  | a :: r => by
    have ih := filter_sub p q h r
    rw [List.filter_cons, List.filter_cons]
    cases hp : p a with
    | true => rw [h a hp]; simp only [if_true, List.length_cons]; omega
    | false =>
      cases hq : q a with
      | true => simp only [Bool.false_eq_true, if_false, if_true, List.length_cons]; omega
      | false => simp only [Bool.false_eq_true, if_false]; exact ih
theorem filter_tail (p : Nat → Bool) (k : Nat) (hk : k ≤ 16) : ((List.range' k (16 - k)).filter p).length ≤ ((List.range' 0 16).filter p).length := by
  have e : List.range' 0 16 = List.range' 0 k ++ List.range' k (16 - k) := by
    have := List.range'_append (s := 0) (m := k) (n := 16 - k) (step := 1)
    rw [show 0 + 1 * k = k by omega, show k + (16 - k) = 16 by omega] at this
    exact this.symm
  rw [e, List.filter_append, List.length_append]
  omega
theorem mis_small {N : Nat} (hN : N ≤ 16) {H : Nat → Nat} (h : Gr N H) (v : Nat) : (mis H v).length ≤ N * N := by
  unfold mis misA
  refine Nat.le_trans (flat_len _ (fun a => decide (a < N)) N _ (fun a ha => ?_)) (Nat.mul_le_mul_right N (count_lt N (by omega)))
  have ha16 := (List.mem_range'_1.1 ha).2
  by_cases hb : (H v).testBit a = true
  · rw [if_pos hb, if_pos (decide_eq_true (h.bnd _ _ hb))]
    unfold misB
    rw [List.length_map]
    refine Nat.le_trans (filter_sub _ (fun b => decide (b < N)) (fun b hb => ?_) _) (Nat.le_trans (filter_tail _ (a + 1) (by omega)) (count_lt N (by omega)))
    rw [Bool.and_eq_true] at hb
    exact decide_eq_true (h.bnd _ _ hb.1)
  · rw [if_neg hb]
    exact Nat.zero_le _
theorem flR_len {N : Nat} (hN : N ≤ 16) : ∀ (o : List Int) (H : Nat → Nat), Gr N H → (flR H o).length ≤ o.length * (N * N)
  | [], _, _ => Nat.zero_le _
  | v :: r, H, h => by
    have h1 := mis_small hN h v.toNat
    have h2 := flR_len hN r _ (h.elim hN v.toNat)
    show (mis H v.toNat ++ flR (elimF H v.toNat) r).length ≤ (r.length + 1) * (N * N)
    rw [List.length_append, Nat.add_mul]
    omega
def lst (p : Int × Int) : List Int := [p.1, p.2]
/-- The graph with the fill: right, chordal, the order without fill and as wide. -/
theorem fills_law {N : Nat} (hN : N ≤ 9) {l : List (List Int)} (hR : rightF (N : Int) l = true) (hl : l.length ≤ 200) {o : List Int} (ho : OdP N o) (hol : o.length = N) :
    (playedF (N : Int) l o).2.2 = 0 ∧ chordF (N : Int) (l ++ (playedF (N : Int) l o).2.1.map lst) = (true, 0) ∧ playedF (N : Int) (l ++ (playedF (N : Int) l o).2.1.map lst) o = ((playedF (N : Int) l o).1, [], 0) ∧ (playedF (N : Int) l o).2.1.length ≤ 729 := by
  have hT := rightF_true hR
  have hA := allF_od ho hol
  have hrg : ∀ x ∈ l, ∀ b ∈ x, 0 ≤ b ∧ b < (N : Int) := fun x hx => (hT.2.2.2 x hx).2
  have hG := ofG_gr hrg
  rw [played_eq hR hA]
  have hf := fun p hp => flR_mem (show N ≤ 16 by omega) o (ofG l) p hG ho.rg hp
  have hlen : (flR (ofG l) o).length ≤ 729 := by
    have := flR_len (show N ≤ 16 by omega) o (ofG l) hG
    rw [hol] at this
    have h2 : N * (N * N) ≤ 9 * (9 * 9) := Nat.mul_le_mul hN (Nat.mul_le_mul hN hN)
    omega
  have hofG : ofG (l ++ (flR (ofG l) o).map lst) = addL (ofG l) (flR (ofG l) o) := ofG_pairs hrg _ hf
  have hR2 : rightF (N : Int) (l ++ (flR (ofG l) o).map lst) = true := rightF_mk (by omega) (by omega) (by rw [List.length_append, List.length_map]; omega) (fun x hx => by
    rcases List.mem_append.1 hx with hx | hx
    · exact hT.2.2.2 x hx
    · obtain ⟨p, hp, rfl⟩ := List.mem_map.1 hx
      obtain ⟨a, b, rfl, h1, h2⟩ := hf p hp
      refine ⟨by simp [lst], fun v hv => ?_⟩
      simp only [lst, pr, List.mem_cons, List.not_mem_nil, or_false] at hv
      omega)
  have hn := fill_none (show N ≤ 16 by omega) o (ofG l) hG ho.rg
  refine ⟨rfl, chord_of_order hR2 ho hol (by rw [hofG]; exact hn.1), ?_, hlen⟩
  rw [played_eq hR2 hA, hofG, hn.1, hn.2]
end Go.Proofs.Ytnnaakinchophaa.Ord
