/- OrderChordal: Chordal returns true exactly if some order has no fill-in, and then MinFill returns such an order; the law, walked; no condition. -/
import Derived.Test.YtnnaakinchophaaOrdGF
import Derived.Test.YtnnaakinchophaaOrdHS
import Derived.Test.YtnnaakinchophaaOrdJA
namespace Go.Proofs.Ytnnaakinchophaa.Ord
set_option linter.unusedVariables false
set_option linter.unusedSimpArgs false
open Go.RowKit Go.Proofs.YtnnaakinchophaaW.PrintWords Go.Proofs.YtnnaakinchophaaW.PrintLast Go.Proofs.YtnnaakinchophaaW.PrintMore
theorem free_iff {N : Nat} {l : List (List Int)} (hR : rightF (N : Int) l = true) : ∀ (m : Nat) (x : List Int), OdP N x → x.length + m = N → (freeF (N : Int) l m x = true ↔ ∃ r, OdP N (x ++ r) ∧ (x ++ r).length = N ∧ flR (ofG l) (x ++ r) = [])
  | 0, x, hx, hl => by
    have hA := allF_od hx (by omega)
    unfold freeF
    rw [played_same, played_eq hR hA, decide_eq_true_eq]
    constructor
    · intro h
      exact ⟨[], by rw [List.append_nil]; exact ⟨hx, by omega, List.length_eq_zero_iff.1 h⟩⟩
    · rintro ⟨r, h1, h2, h3⟩
      have : r = [] := by
        rw [List.length_append] at h2
        exact List.length_eq_zero_iff.1 (by omega)
      subst this
      rw [List.append_nil] at h3
      exact List.length_eq_zero_iff.2 h3
  | m + 1, x, hx, hl => by
    unfold freeF
    rw [Int.toNat_natCast, List.any_eq_true]
    constructor
    · rintro ⟨v, hv, h⟩
      rw [Bool.and_eq_true, Bool.not_eq_true'] at h
      obtain ⟨h1, h2⟩ := h
      have hvN := List.mem_range.1 hv
      have hn : (v : Int) ∉ x := fun hm => by
        rw [List.any_eq_false] at h1
        exact h1 _ hm (by simp)
      obtain ⟨r, h3, h4, h5⟩ := (free_iff hR m (x ++ [(v : Int)]) (hx.push (by omega) (by omega) (by omega) hn) (by rw [List.length_append]; simp; omega)).1 h2
      rw [List.append_assoc] at h3 h4 h5
      exact ⟨[(v : Int)] ++ r, h3, h4, h5⟩
    · rintro ⟨r, h1, h2, h3⟩
      cases r with
      | nil => rw [List.append_nil] at h2; omega
      | cons v r =>
        have hr := h1.rg v (List.mem_append_right _ List.mem_cons_self)
        obtain ⟨v, rfl⟩ := Int.eq_ofNat_of_zero_le hr.1
        have hn : (v : Int) ∉ x := fun hm => by
          have := h1.nd
          rw [List.nodup_append] at this
          exact this.2.2 _ hm _ List.mem_cons_self rfl
        refine ⟨v, List.mem_range.2 (by omega), ?_⟩
        rw [Bool.and_eq_true, Bool.not_eq_true']
        refine ⟨List.any_eq_false.2 (fun y hy => ?_), ?_⟩
        · intro he
          rw [beq_iff_eq] at he
          exact hn (he ▸ hy)
        · refine (free_iff hR m (x ++ [(v : Int)]) (hx.push (by omega) (by omega) (by omega) hn) (by rw [List.length_append]; simp; omega)).2 ⟨r, ?_, ?_, ?_⟩
          · rw [List.append_assoc]; exact h1
          · rw [List.append_assoc]; exact h2
          · rw [List.append_assoc]; exact h3
/-- Chordal says whether some order has no fill; then MinFill's has none. -/
theorem chordal_law {N : Nat} {l : List (List Int)} (hR : rightF (N : Int) l = true) : (chordF (N : Int) l).2 = 0 ∧ freeF (N : Int) l N [] = (chordF (N : Int) l).1 ∧ (playedF (N : Int) l (greedyF cfF (N : Int) l).1).2.2 = 0 ∧ ((chordF (N : Int) l).1 = true → (playedF (N : Int) l (greedyF cfF (N : Int) l).1).2.1.length = 0) := by
  have hgo := greedy_od (cf := cfF) hR
  rw [Int.toNat_natCast] at hgo
  have hA := allF_od hgo.1 hgo.2.1
  refine ⟨by unfold chordF; rw [hR]; rfl, ?_, by rw [played_eq hR hA], fun h => by rw [played_eq hR hA]; exact List.length_eq_zero_iff.2 (chord_order hR h)⟩
  rw [Bool.eq_iff_iff, free_iff hR N [] ⟨List.nodup_nil, fun x hx => absurd hx List.not_mem_nil, Nat.zero_le _⟩ (by simp)]
  constructor
  · rintro ⟨r, h1, h2, h3⟩
    rw [List.nil_append] at h1 h2 h3
    rw [chord_of_order hR h1 h2 h3]
  · intro h
    exact ⟨_, by rw [List.nil_append]; exact ⟨hgo.1, hgo.2.1, chord_order hR h⟩⟩
set_option maxHeartbeats 4000000 in
set_option maxRecDepth 100000 in
theorem orderChordal_calls (n : Int) (A : Option Addr) (c : Nat) (l : List (List Int)) (w : World) (hr : Kd.C kl w A l.length l) (hc : l.length ≤ c) :
    Calls Try.prog 9 #[.int .i64 n, .slice A l.length c] w fun e w' => e = .returned (.bool true) ∧ Below w.heap.size w w' := by
  have H0 := Aside0.mk (few_calls n A c l 6 w (by decide) (by decide) hr hc)
  have HFS := Aside0.mk (fun h => few_small (n := n) (M := 6) (l := fewL ((6 : Nat) : Int) l) (by decide) h)
  clear hr hc
  go_enter Try.func9, Try.ntmps9
  go_wp2_with fail
  refine H0.out.mono ?_
  rintro e w1 ⟨v1, rfl, hR1, hB1⟩
  clear H0
  obtain ⟨A1, c1, rfl, hc1, hC1⟩ := Kd.R_reads hR1
  generalize fewN n ((6 : Nat) : Int) = n1 at *
  generalize fewL ((6 : Nat) : Int) l = l1 at *
  have HB1 := Aside0.mk hB1
  have HC1 := Aside0.mk hC1
  have H1 := Aside0.mk (rright_calls n1 A1 c1 l1 w1 hC1)
  clear hR1 hB1 hC1
  cases hR : rightF n1 l1 with
  | false =>
    have H9 := Aside0.mk (alive_calls w1)
    rw [hR] at H1
    clear HFS hR
    go_wp2_with fail
    refine H1.out.mono ?_
    rintro e w1' ⟨rfl, rfl⟩
    go_wp2_with fail
    refine H9.out.mono ?_
    rintro e wd ⟨rfl, hb⟩
    have HBd := Aside0.mk (below_step HB1.out hb)
    clear hb
    go_wp2
    go_ret
    exact ⟨rfl, HBd.out⟩
  | true =>
    obtain ⟨N, rfl, hN⟩ := HFS.out hR
    rw [hR] at H1
    have hlaw := chordal_law hR
    have hg0 := (greedy_od (cf := cfF) hR).2.2
    have H2 := Aside0.mk (chordal_calls N A1 c1 l1 w1 HC1.out hc1)
    have H4 := Aside0.mk (fun W h => minFill_calls N A1 c1 l1 W h hc1)
    have HFr := Aside0.mk (fun A2 c2 W h1 h2 => free_calls N (by omega) A1 c1 l1 hc1 N [] A2 c2 W (by simp) h1 h2)
    have H5 := Aside0.mk (fun A2 c2 W h1 h2 => fill_calls N A1 c1 l1 A2 c2 (greedyF cfF (N : Int) l1).1 W h1 hc1 h2)
    rw [hlaw.2.1] at HFr
    rw [hg0] at H4
    obtain ⟨hl1, -, hl3, hl4⟩ := hlaw
    generalize (greedyF cfF (N : Int) l1).1 = g at *
    generalize chordF (N : Int) l1 = C at *
    generalize playedF (N : Int) l1 g = P at *
    obtain ⟨P1, P2, P3⟩ := P
    obtain ⟨is, ce⟩ := C
    have hce : ce = 0 := hl1
    have hP3 : P3 = 0 := hl3
    subst hce
    subst hP3
    have HL4 := Aside0.mk hl4
    have hbb : (is != is) = false := by simp
    clear HFS hR hl1 hl3 hl4 hg0
    go_wp2_with fail
    refine H1.out.mono ?_
    rintro e w1' ⟨rfl, rfl⟩
    clear H1
    go_wp2_with fail
    refine H2.out.mono ?_
    rintro e w2 ⟨rfl, hB2⟩
    have HB2 := Aside0.mk (below_step HB1.out hB2)
    have HC2 := Aside0.mk (Kd.C_below HC1.out hB2)
    have hbA : Below w.heap.size w (w2.alloc (.cells #[] 3)) := HB2.out.alloc HB2.out.size _
    have HBA := Aside0.mk hbA
    have HCA := Aside0.mk (Kd.C_below HC2.out ((Below.refl _ w2).alloc (Nat.le_refl _) (.cells #[] 3)))
    have hI0 : Kd.R (Kd.int .i64) 3 (w2.alloc (.cells #[] 3)) w2.heap.size (fun _ => True) (.slice (some ⟨w2.heap.size, 0, none⟩) 0 0) [] := Kd.R_of_own (by
      have h := own_lit w2 w2.heap.size 3 .i64 [] (Nat.le_refl _) (by decide)
      exact h) (fun _ _ => trivial)
    have H3 := Aside0.mk (HFr.out (some ⟨w2.heap.size, 0, none⟩) 0 (w2.alloc (.cells #[] 3)) HCA.out (Kd.R_reads' hI0).2.2)
    clear H2 hB2 HB1 HC1 hbA hI0 HFr
    go_wp2_with fail
    refine H3.out.mono ?_
    rintro e w3 ⟨rfl, hB3⟩
    have HB3 := Aside0.mk (below_step HBA.out hB3)
    have HC3 := Aside0.mk (Kd.C_below HCA.out hB3)
    clear H3 hB3 HBA HCA
    go_wp2_with fail
    refine (H4.out w3 HC3.out).mono ?_
    rintro e w4 ⟨v4, rfl, hR4, hB4⟩
    obtain ⟨A4, c4, rfl, -, hC4⟩ := Kd.R_reads hR4
    have HB4 := Aside0.mk (below_step HB3.out hB4)
    have H6 := Aside0.mk (H5.out A4 c4 w4 (Kd.C_below HC3.out hB4) hC4)
    clear H4 H5 hB4 HB3 hR4 hC4
    go_wp2_with fail
    refine H6.out.mono ?_
    rintro e w5 ⟨v5, rfl, hR5, hB5⟩
    obtain ⟨A5, c5, rfl, -, -⟩ := Kd.R_reads hR5
    have HB5 := Aside0.mk (below_step HB4.out hB5)
    have H9 := Aside0.mk (alive_calls w5)
    clear H6 hB5 HB4 hR5
    cases is with
    | false =>
      go_wp2_with fail
      refine H9.out.mono ?_
      rintro e wd ⟨rfl, hb⟩
      have HBd := Aside0.mk (below_step HB5.out hb)
      clear hb
      go_wp2
      go_ret
      exact ⟨rfl, HBd.out⟩
    | true =>
      have hz : P2.length = 0 := HL4.out rfl
      have hzb : (((P2.length : Nat) : Int) == 0) = true := by rw [hz]; rfl
      clear hz
      go_wp2_with fail
      refine H9.out.mono ?_
      rintro e wd ⟨rfl, hb⟩
      have HBd := Aside0.mk (below_step HB5.out hb)
      clear hb
      go_wp2
      go_ret
      exact ⟨rfl, HBd.out⟩
end Go.Proofs.Ytnnaakinchophaa.Ord
