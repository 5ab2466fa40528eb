/- OrderBest: Best agrees with the reference: the first optimal order and its width, or the error; the law, walked; no condition. -/
import Derived.Test.YtnnaakinchophaaOrdKY
namespace Go.Proofs.Ytnnaakinchophaa.Ord
set_option linter.unusedVariables false
set_option linter.unusedSimpArgs false
open Go.RowKit Go.Proofs.YtnnaakinchophaaW.PrintWords Go.Proofs.YtnnaakinchophaaW.PrintLast Go.Proofs.YtnnaakinchophaaW.PrintMore
theorem least_len2 (n : Int) (l : List (List Int)) (M : Nat) : ∀ (m : Nat) (x : List Int), x.length + m ≤ M → (leastF n l m x).1.length ≤ M
  | 0, x, h => by
    show x.length ≤ M
    omega
  | m + 1, x, h => by
    unfold leastF
    have : ∀ (vs : List Nat) (s : List Int × Int), s.1.length ≤ M → (vs.foldl (lsS (leastF n l m) x) s).1.length ≤ M := by
      intro vs
      induction vs with
      | nil => exact fun s h => h
      | cons v r ih =>
        intro s hs
        rw [List.foldl_cons]
        refine ih _ ?_
        unfold lsS
        split
        · exact hs
        · split
          · exact least_len2 n l M m _ (by rw [List.length_append]; simp; omega)
          · exact hs
    exact this _ _ (Nat.zero_le _)
theorem best_some (n : Int) (l : List (List Int)) : ∃ r1 r2 r3, bestF n l = some (r1, r2, r3) ∧ r1.length ≤ 100 := by
  cases hR : rightF n l with
  | false => exact ⟨[], 0, 1, by unfold bestF; rw [hR]; rfl, Nat.zero_le _⟩
  | true =>
    have hT := rightF_true hR
    obtain ⟨N, rfl⟩ := Int.eq_ofNat_of_zero_le hT.1
    by_cases hN : N ≤ 10
    · refine ⟨_, _, _, best_least hN hR, ?_⟩
      have := least_len2 (N : Int) l N N [] (by simp)
      omega
    · exact ⟨[], 0, 2, by unfold bestF; rw [hR, if_pos rfl, if_neg (by omega)], Nat.zero_le _⟩
set_option maxHeartbeats 4000000 in
set_option maxRecDepth 100000 in
theorem orderBest_calls (n : Int) (A : Option Addr) (c : Nat) (l : List (List Int)) (w : World) (hr : Kd.C kl w A l.length l) (hc : l.length ≤ c) :
    Calls Try.prog 3 #[.int .i64 n, .slice A l.length c] w fun e w' => e = .returned (.bool true) ∧ Below w.heap.size w w' := by
  have HR := Aside0.mk hr
  clear hr
  go_enter Try.func3, Try.ntmps3
  go_upto_region 1 with fail
  go_cut [16] (fun s16 wx => s16 = .bool (decide ((8 : Int) < n ∧ n ≤ 10)) ∧ wx = w)
  case first =>
    by_cases h1 : (8 : Int) < n
    · have h1b : decide ((8 : Int) < n) = true := decide_eq_true h1
      by_cases h2 : n ≤ 10
      · have h2b : decide (n ≤ 10) = true := decide_eq_true h2
        go_wp2
        go_meet
        exact ⟨congrArg Value.bool (decide_eq_true ⟨h1, h2⟩).symm, rfl⟩
      · have h2b : decide (n ≤ 10) = false := decide_eq_false h2
        go_wp2
        go_meet
        exact ⟨congrArg Value.bool (decide_eq_false (by omega)).symm, rfl⟩
    · have h1b : decide ((8 : Int) < n) = false := decide_eq_false h1
      go_wp2
      go_meet
      exact ⟨congrArg Value.bool (decide_eq_false (by omega)).symm, rfl⟩
  case rest =>
    obtain ⟨rfl, hwc⟩ := hcut
    have hwc2 := hwc.symm
    subst hwc2
    clear hwc
    go_upto_if 16 with fail
    go_cut [0] (fun s0 wx => ∃ n0 : Int, s0 = .int .i64 n0 ∧ wx = w)
    case first =>
      generalize decide ((8 : Int) < n ∧ n ≤ 10) = b at *
      cases b with
      | true =>
        go_wp2
        go_meet
        exact ⟨8, rfl, rfl⟩
      | false =>
        go_wp2
        go_meet
        exact ⟨n, rfl, rfl⟩
    case rest =>
      obtain ⟨n0, rfl, hwc⟩ := hcut
      have hwc2 := hwc.symm
      subst hwc2
      clear hwc
      have H0 := Aside0.mk (few_calls n0 A c l 16 w (by decide) (by decide) HR.out hc)
      go_wp2_with fail
      refine H0.out.mono ?_
      rintro e w1 ⟨v1, rfl, hR1, hB1⟩
      clear H0
      obtain ⟨A1, c1, rfl, hc1, hC1⟩ := Kd.R_reads hR1
      generalize fewN n0 ((16 : Nat) : Int) = n1 at *
      generalize fewL ((16 : Nat) : Int) l = l1 at *
      obtain ⟨r1, r2, r3, hbest, hl100⟩ := best_some n1 l1
      have HB1 := Aside0.mk hB1
      have HC1 := Aside0.mk hC1
      have H1 := Aside0.mk (best_all n1 A1 c1 l1 r1 r2 r3 w1 hC1 hc1 hbest)
      have H2 := Aside0.mk (fun W h => G.rbest_calls n1 A1 c1 l1 r1 r2 r3 W h hc1 hbest)
      clear hR1 hB1 hC1 hbest
      go_wp2_with fail
      refine H1.out.mono ?_
      rintro e w2 ⟨v2, rfl, hR2, hB2⟩
      have HB2 := Aside0.mk (below_step HB1.out hB2)
      have HC2 := Aside0.mk (Kd.C_below HC1.out hB2)
      have HR2 := Aside0.mk hR2
      clear H1 hB2 HB1 HC1 hR2
      go_wp2_with fail
      refine (H2.out w2 HC2.out).mono ?_
      rintro e w3 ⟨v3, rfl, hR3, hB3⟩
      have HB3 := Aside0.mk (below_step HB2.out hB3)
      obtain ⟨a2, c2, rfl, hc2, hC2⟩ := Kd.R_reads (Kd.R_below HR2.out hB3)
      obtain ⟨a3, c3, rfl, hc3, hC3⟩ := Kd.R_reads hR3
      have H4 := Aside0.mk (same_calls a2 c2 a3 c3 r1 w3 hC2 hc2 hC3 hc3 hl100)
      have h1 : (r3 == r3) = true := by simp
      have h2 : (r2 == r2) = true := by simp
      clear H2 hB3 HB2 HC2 HR2 hR3 hC2 hC3
      go_wp2_with fail
      refine H4.out.mono ?_
      rintro e w4 ⟨rfl, hD⟩
      obtain ⟨⟨m4, rfl⟩⟩ := hD
      have H9 := Aside0.mk (alive_calls (w3.drewN m4))
      clear H4
      go_wp2_with fail
      refine H9.out.mono ?_
      rintro e wd ⟨rfl, hb⟩
      have HBd := Aside0.mk (below_step (pw_below_drewN HB3.out m4) hb)
      clear hb
      go_wp2
      go_ret
      exact ⟨rfl, HBd.out⟩
end Go.Proofs.Ytnnaakinchophaa.Ord
