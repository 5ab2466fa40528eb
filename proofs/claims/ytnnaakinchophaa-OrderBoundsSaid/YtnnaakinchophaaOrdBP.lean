/- Bounds of the least width: orders, Lower, scopes, more scopes; plain masks and lists; conditions as written. -/
import Derived.Test.YtnnaakinchophaaOrdGR
namespace Go.Proofs.Ytnnaakinchophaa.Ord
set_option linter.unusedVariables false
set_option linter.unusedSimpArgs false
open Go.RowKit Go.Proofs.YtnnaakinchophaaW.PrintWords Go.Proofs.YtnnaakinchophaaW.PrintLast Go.Proofs.YtnnaakinchophaaW.PrintMore
theorem minG_le (f : Int → Int) : ∀ (l : List Int) (m : Int), f (minG f m l) ≤ f m ∧ ∀ x ∈ l, f (minG f m l) ≤ f x
  | [], m => ⟨Int.le_refl _, fun x hx => absurd hx List.not_mem_nil⟩
  | x :: r, m => by
    show f (minG f (if f x < f m then x else m) r) ≤ f m ∧ _
    obtain ⟨h1, h2⟩ := minG_le f r (if f x < f m then x else m)
    have h3 : f (if f x < f m then x else m) ≤ f m ∧ f (if f x < f m then x else m) ≤ f x := by
      split
      · exact ⟨by omega, Int.le_refl _⟩
      · exact ⟨Int.le_refl _, by omega⟩
    refine ⟨Int.le_trans h1 h3.1, fun y hy => ?_⟩
    show f (minG f (if f x < f m then x else m) r) ≤ f y
    rcases List.mem_cons.1 hy with rfl | hy
    · exact Int.le_trans h1 h3.2
    · exact h2 y hy
theorem lwV_le (H : Nat → Nat) (l : List Int) (x : Int) (hx : x ∈ l) : cfD H (lwV H l).toNat ≤ cfD H x.toNat := by
  unfold lwV
  cases l with
  | nil => cases hx
  | cons y r =>
    obtain ⟨h1, h2⟩ := minG_le (fun x => cfD H x.toNat) r y
    rcases List.mem_cons.1 hx with rfl | hx
    · exact h1
    · exact h2 x hx
/-- The first of L that an order takes out: the others of L are left then. -/
theorem first_in (G : Nat → Nat) (N L : Nat) : ∀ (o : List Int) (S : Nat), Ran N o → (∃ j, j < N ∧ L.testBit j = true) → (∀ j, j < N → L.testBit j = true → (j : Int) ∈ o) → (∀ j, L.testBit j = true → S.testBit j = false) →
    ∃ u P, u < N ∧ L.testBit u = true ∧ (∀ j, L.testBit j = true → P.testBit j = false) ∧ (bhN G u P : Int) ≤ wS G S o
  | [], S, _, ⟨j, hj, hL⟩, ho, _ => absurd (ho j hj hL) List.not_mem_nil
  | v :: r, S, hR, hne, ho, hS => by
    obtain ⟨v, rfl, hv⟩ := hR.head
    by_cases hL : L.testBit v = true
    · exact ⟨v, S, hv, hL, hS, by
        show _ ≤ mx (bhN G ((v : Int)).toNat S : Int) _
        rw [Int.toNat_natCast]
        exact le_mx _ _⟩
    · obtain ⟨u, P, h1, h2, h3, h4⟩ := first_in G N L r (sb S v) hR.tail hne (fun j hj hLj => by
        rcases List.mem_cons.1 (ho j hj hLj) with e | e
        · have : j = v := by omega
          rw [this] at hLj; exact absurd hLj hL
        · exact e) (fun j hLj => by
        rw [sb_bit, hS j hLj]
        have : j ≠ v := fun e => hL (e ▸ hLj)
        simp [this])
      exact ⟨u, P, h1, h2, h3, Int.le_trans h4 (le_mx_r _ _)⟩
theorem lw_le {N : Nat} (hN : N ≤ 16) {G : Nat → Nat} (hG : Gr N G) {o : List Int} (ho : OdP N o) (hol : o.length = N) : ∀ (m : Nat) (H : Nat → Nat) (L : Nat) (w : Int), Sim N H G L → (leftL N L).length = m → w ≤ wS G 0 o → lwL m H (leftL N L) w ≤ wS G 0 o
  | 0, _, _, _, _, _, hw => hw
  | m + 1, H, L, w, h, hm, hw => by
    have hv := lwV_mem H (leftL N L) (by omega)
    obtain ⟨v, e, hvN, hL⟩ := leftL_mem.1 hv
    have e3 : (leftL N L).erase (v : Int) = leftL N (cb L v) := leftL_erase hN hvN
    have hlen : (leftL N (cb L v)).length = m := by
      rw [← e3, List.length_erase_of_mem (e ▸ hv), hm]
      rfl
    show lwL m (cutF H (lwV H (leftL N L)).toNat) ((leftL N L).erase (lwV H (leftL N L))) (mx w (cfD H (lwV H (leftL N L)).toNat)) ≤ _
    have hdeg : cfD H (lwV H (leftL N L)).toNat ≤ wS G 0 o := by
      obtain ⟨u, P, h1, h2, h3, h4⟩ := first_in G N L o 0 ho.rg ⟨v, hvN, hL⟩ (fun j hj _ => od_all ho hol j hj) (fun _ _ => Nat.zero_testBit _)
      refine Int.le_trans (lwV_le H _ (u : Int) (leftL_mem.2 ⟨u, rfl, h1, h2⟩)) (Int.le_trans ?_ h4)
      rw [Int.toNat_natCast]
      unfold cfD
      have := bhN_ge (S := P) (X := H u) hN hG (show u < 16 by omega) (fun j hj => by
        have hj16 := bit16 (h.lt u) hj
        rw [h.bit u j (by omega) hj16, Bool.and_eq_true, Bool.and_eq_true] at hj
        exact ⟨hj.2.2, h3 j hj.2.1⟩)
      omega
    rw [e, Int.toNat_natCast] at hdeg ⊢
    rw [e3]
    exact lw_le hN hG ho hol m _ _ _ (h.cut hN v) hlen (mx_le hw hdeg)
/-- Some order is as narrow as the table says. -/
theorem nd_ord {N : Nat} (hN : N ≤ 16) {G : Nat → Nat} (hG : Gr N G) : ∀ (m : Nat) (x : List Int), OdP N x → x.length + m = N → ∃ r, OdP N (x ++ r) ∧ (x ++ r).length = N ∧ wS G (mk x) r = nd G N (mk x)
  | 0, x, hx, hl => ⟨[], by rw [List.append_nil]; exact hx, by rw [List.append_nil]; omega, by
      show (0 : Int) = (needF G N).getD (mk x) 0
      rw [mk_full hx (by omega), needF_full]⟩
  | m + 1, x, hx, hl => by
    have hx0 : ∀ y ∈ x, 0 ≤ y := fun y hy => (hx.rg y hy).1
    obtain ⟨s, hs, hsm⟩ := od_free hx (by omega)
    obtain ⟨v, hv, hSv, hcv⟩ := nd_att hN hG (mk_lt hx.rg) ⟨s, hs, (mk_bitF hx0 s).2 hsm⟩
    obtain ⟨r, h1, h2, h3⟩ := nd_ord hN hG m (x ++ [(v : Int)]) (hx.push (by omega) (by omega) (by omega) ((mk_bitF hx0 v).1 hSv)) (by rw [List.length_append]; simp; omega)
    rw [mk_snoc, Int.toNat_natCast] at h3
    rw [List.append_assoc] at h1 h2
    refine ⟨[(v : Int)] ++ r, h1, h2, ?_⟩
    show mx (bhN G ((v : Int)).toNat (mk x) : Int) (wS G (sb (mk x) ((v : Int)).toNat) r) = _
    rw [Int.toNat_natCast, h3, hcv]
/-- How many distinct variables a scope has. -/
def metF (N : Nat) (x : List Int) : Nat := ((List.range N).filter fun v : Nat => x.any fun y => y == (v : Int)).length
theorem popc_mk {N : Nat} (hN : N ≤ 16) {x : List Int} (hx : Ran N x) : popc (mk x) = metF N x := by
  unfold popc metF
  have e : List.range 16 = List.range N ++ List.range' N (16 - N) := by
    have := List.range'_append (s := 0) (m := N) (n := 16 - N) (step := 1)
    rw [show 0 + 1 * N = N by omega, show N + (16 - N) = 16 by omega] at this
    rw [List.range_eq_range', List.range_eq_range']
    exact this.symm
  rw [e, List.filter_append, List.length_append]
  have h2 : (List.range' N (16 - N)).filter (fun i => (mk x).testBit i) = [] := by
    apply List.filter_eq_nil_iff.2
    intro j hj hb
    have := hx _ ((mk_bit (fun y hy => (hx y hy).1) j).1 hb)
    have := (List.mem_range'_1.1 hj).1
    omega
  rw [h2, List.length_nil, Nat.add_zero]
  congr 1
  apply List.filter_congr
  intro j hj
  rw [Bool.eq_iff_iff, mk_bit (fun y hy => (hx y hy).1), any_memR]
theorem popc_cb {X u : Nat} (hu : u < 16) (h : X.testBit u = true) : popc X ≤ popc (cb X u) + 1 := by
  unfold popc
  have key : ∀ l : List Nat, (∀ j ∈ l, j < 16) → l.Nodup → (l.filter fun i => X.testBit i).length ≤ (l.filter fun i => (cb X u).testBit i).length + (if u ∈ l then 1 else 0) := by
    intro l
    induction l with
    | nil => intro _ _; exact Nat.le_refl _
    | cons a r ih =>
      intro hl hn
      obtain ⟨h1, h2⟩ := List.nodup_cons.1 hn
      have ih := ih (fun j hj => hl j (List.mem_cons_of_mem _ hj)) h2
      rw [List.filter_cons, List.filter_cons, cb_bit X u a (by have := hl a List.mem_cons_self; omega)]
      by_cases e : a = u
      · subst e
        rw [if_neg h1] at ih
        rw [h, if_pos List.mem_cons_self]
        simp only [if_true, List.length_cons, decide_true, Bool.not_true, Bool.and_false, Bool.false_eq_true, if_false]
        omega
      · have : (u ∈ a :: r) ↔ u ∈ r := by
          rw [List.mem_cons]
          exact ⟨fun h => h.resolve_left (fun e2 => e e2.symm), Or.inr⟩
        simp only [e, decide_false, Bool.not_false, Bool.and_true, this]
        cases X.testBit a with
        | true => simp only [if_true, List.length_cons]; omega
        | false => simp only [Bool.false_eq_true, if_false]; exact ih
  have := key (List.range 16) (fun j hj => List.mem_range.1 hj) List.nodup_range
  rw [if_pos (List.mem_range.2 hu)] at this
  exact this
/-- What the law OrderBounds asks. -/
theorem bounds_law {N : Nat} (hN : N ≤ 10) {l : List (List Int)} (hR : rightF (N : Int) l = true) : ∃ D : Int, ∃ o1, bestF (N : Int) l = some (o1, D, 0) ∧ 0 ≤ D ∧
    (∀ o, OdP N o → o.length = N → D ≤ (playedF (N : Int) l o).1 ∧ (playedF (N : Int) l o).2.2 = 0) ∧ (lowerF (N : Int) l).1 ≤ D ∧ (lowerF (N : Int) l).2 = 0 ∧ (∀ x ∈ l, (metF N x : Int) - 1 ≤ D) ∧
    ∀ l2, rightF (N : Int) (l ++ l2) = true → ∃ D2 : Int, ∃ o2, bestF (N : Int) (l ++ l2) = some (o2, D2, 0) ∧ D ≤ D2 := by
  have hT := rightF_true hR
  have hN16 : N ≤ 16 := by omega
  have hrg : ∀ x ∈ l, ∀ b ∈ x, 0 ≤ b ∧ b < (N : Int) := fun x hx => (hT.2.2.2 x hx).2
  have hG := ofG_gr hrg
  have hnil : OdP N [] := ⟨List.nodup_nil, fun x hx => absurd hx List.not_mem_nil, Nat.zero_le _⟩
  have hD : ∀ l', rightF (N : Int) l' = true → Gr N (ofG l') → (leastF (N : Int) l' N []).2 = nd (ofG l') N 0 ∧ 0 ≤ nd (ofG l') N 0 := fun l' hR' hG' => by
    obtain ⟨r, h1, h2, h3⟩ := nd_ord hN16 hG' N [] hnil (by simp)
    have h3' : wS (ofG l') 0 r = nd (ofG l') N 0 := h3
    have h0 := wS_nonneg r (ofG l') 0
    rw [h3'] at h0
    refine ⟨?_, h0⟩
    rw [(least_law hN16 hR' hG' N [] hnil (by simp)).1]
    show mx 0 (nd (ofG l') N 0) = _
    unfold mx
    split <;> omega
  obtain ⟨r, hr1, hr2, hr3⟩ := nd_ord hN16 hG N [] hnil (by simp)
  rw [List.nil_append] at hr1 hr2
  have hr3' : wS (ofG l) 0 r = nd (ofG l) N 0 := hr3
  refine ⟨nd (ofG l) N 0, (leastF (N : Int) l N []).1, by rw [best_least hN hR, (hD l hR hG).1], (hD l hR hG).2, fun o ho hol => ?_, ?_, by unfold lowerF; rw [hR]; rfl, fun x hx => ?_, fun l2 hR2 => ?_⟩
  · rw [played_eq hR (allF_od ho hol)]
    refine ⟨?_, rfl⟩
    show _ ≤ wdR (ofG l) o
    rw [wS_order hN16 hG ho]
    exact nd_low0 ho hol
  · unfold lowerF
    rw [hR, if_pos rfl, Int.toNat_natCast, ← leftL_all N, ← hr3']
    exact lw_le hN16 hG hr1 hr2 N (ofG l) (2 ^ N - 1) 0 (sim_start N hN16 l hrg) (by rw [leftL_all, idL_len]) (wS_nonneg _ _ _)
  · have hxR : Ran N x := hrg x hx
    have hx0 : ∀ y ∈ x, 0 ≤ y := fun y hy => (hxR y hy).1
    rw [← popc_mk hN16 hxR]
    by_cases hne : ∃ j, j < N ∧ (mk x).testBit j = true
    · obtain ⟨u, P, h1, h2, h3, h4⟩ := first_in (ofG l) N (mk x) r 0 hr1.rg hne (fun j hj _ => od_all hr1 hr2 j hj) (fun _ _ => Nat.zero_testBit _)
      have h5 := popc_cb (show u < 16 by omega) h2
      have h6 := bhN_ge (S := P) (X := cb (mk x) u) hN16 hG (show u < 16 by omega) (fun j hj => by
        have hj2 : (mk x).testBit j = true := by
          unfold cb at hj
          rw [Nat.testBit_and, Bool.and_eq_true] at hj
          exact hj.1
        have hjx := (mk_bit hx0 j).1 hj2
        have hjN := (hxR _ hjx).2
        rw [cb_bit _ _ _ (by omega), Bool.and_eq_true, Bool.not_eq_true', decide_eq_false_iff_not] at hj
        refine ⟨(ofG_bit (fun x hx b hb => (hrg x hx b hb).1) u j).2 ⟨fun e => hj.2 e.symm, x, hx, (mk_bit hx0 u).1 h2, hjx⟩, h3 j hj2⟩)
      rw [hr3'] at h4
      omega
    · have : popc (mk x) ≤ 0 := popc_le (by omega) (fun j hj => absurd ⟨j, by
        have := (hxR _ ((mk_bit hx0 j).1 hj)).2
        omega, hj⟩ hne)
      have h0 := (hD l hR hG).2
      omega
  · have hT2 := rightF_true hR2
    have hG2 := ofG_gr (N := N) (fun x hx => (hT2.2.2.2 x hx).2)
    refine ⟨nd (ofG (l ++ l2)) N 0, (leastF (N : Int) (l ++ l2) N []).1, by rw [best_least hN hR2, (hD _ hR2 hG2).1], ?_⟩
    obtain ⟨q, hq1, hq2, hq3⟩ := nd_ord hN16 hG2 N [] hnil (by simp)
    rw [List.nil_append] at hq1 hq2
    have hq3' : wS (ofG (l ++ l2)) 0 q = nd (ofG (l ++ l2)) N 0 := hq3
    rw [← hq3']
    refine Int.le_trans (nd_low0 hq1 hq2) (wS_mono hN16 hG hG2 (fun i j hb => ?_) q 0 hq1.rg)
    rw [ofG_bit (fun x hx b hb => (hrg x hx b hb).1)] at hb
    rw [ofG_bit (fun x hx b hb => ((hT2.2.2.2 x hx).2 b hb).1)]
    obtain ⟨h1, x, hx, h2, h3⟩ := hb
    exact ⟨h1, x, List.mem_append_left _ hx, h2, h3⟩
end Go.Proofs.Ytnnaakinchophaa.Ord
