/- OrderGreedy: MinDegree and MinFill agree with the reference, ties included; the law, walked; no condition. -/
import Derived.Test.YtnnaakinchophaaOrdRC
namespace Go.Proofs.Ytnnaakinchophaa.Ord
set_option linter.unusedVariables false
set_option linter.unusedSimpArgs false
open Go.RowKit Go.Proofs.YtnnaakinchophaaW.PrintWords Go.Proofs.YtnnaakinchophaaW.PrintLast Go.Proofs.YtnnaakinchophaaW.PrintMore
set_option maxHeartbeats 4000000 in
set_option maxRecDepth 100000 in
theorem orderGreedy_calls (n : Int) (A : Option Addr) (c : Nat) (l : List (List Int)) (w : World) (hr : Kd.C kl w A l.length l) (hc : l.length ≤ c) :
    Calls Try.prog 8 #[.int .i64 n, .slice A l.length c] w fun e w' => e = .returned (.bool true) ∧ Below w.heap.size w w' := by
  have H0 := Aside0.mk (few_calls n A c l 16 w (by decide) (by decide) hr hc)
  clear hr hc
  go_enter Try.func8, Try.ntmps8
  go_wp2_with fail
  refine H0.out.mono ?_
  rintro e w1 ⟨v1, rfl, hR1, hB1⟩
  clear H0
  obtain ⟨A1, c1, rfl, hc1, hC1⟩ := Kd.R_reads hR1
  generalize fewN n ((16 : Nat) : Int) = n1 at *
  generalize fewL ((16 : Nat) : Int) l = l1 at *
  have HB1 := Aside0.mk hB1
  have H1 := Aside0.mk (minDegree_calls n1 A1 c1 l1 w1 hC1 hc1)
  have hE := greedy_same costD n1 l1
  have hF := greedy_same costF n1 l1
  have hEl : (greedyF cfD n1 l1).1.length ≤ 16 := greedy_len
  have hFl : (greedyF cfF n1 l1).1.length ≤ 16 := greedy_len
  generalize greedyF cfD n1 l1 = E at *
  generalize hFe : greedyF cfF n1 l1 = F at *
  obtain ⟨E1, E2⟩ := E
  obtain ⟨F1, F2⟩ := F
  have HC1 := Aside0.mk hC1
  clear hR1 hB1 hC1
  go_wp2_with fail
  refine H1.out.mono ?_
  rintro e w2 ⟨v2, rfl, hR2, hB2⟩
  have HC2 := Aside0.mk (Kd.C_below HC1.out hB2)
  have HB2 := Aside0.mk (below_step HB1.out hB2)
  have H2 := Aside0.mk (rminDegree_calls n1 A1 c1 l1 w2 HC2.out hc1)
  rw [hE] at H2
  have HR2 := Aside0.mk hR2
  clear H1 HC1 HB1 hB2 hR2 hE
  go_wp2_with fail
  refine H2.out.mono ?_
  rintro e w3 ⟨v3, rfl, hR3, hB3⟩
  have HC3 := Aside0.mk (Kd.C_below HC2.out hB3)
  have HB3 := Aside0.mk (below_step HB2.out hB3)
  have HR3 := Aside0.mk (And.intro (Kd.R_below HR2.out hB3) hR3)
  have H3 := Aside0.mk (minFill_calls n1 A1 c1 l1 w3 HC3.out hc1)
  rw [hFe] at H3
  clear H2 HC2 HB2 hB3 hR3 HR2 hFe
  go_wp2_with fail
  refine H3.out.mono ?_
  rintro e w4 ⟨v4, rfl, hR4, hB4⟩
  have HC4 := Aside0.mk (Kd.C_below HC3.out hB4)
  have HB4 := Aside0.mk (below_step HB3.out hB4)
  have HR4 := Aside0.mk (And.intro (Kd.R_below HR3.out.1 hB4) (And.intro (Kd.R_below HR3.out.2 hB4) hR4))
  have H4 := Aside0.mk (rminFill_calls n1 A1 c1 l1 w4 HC4.out hc1)
  rw [hF] at H4
  clear H3 HC3 HB3 hB4 hR4 HR3 hF
  go_wp2_with fail
  refine H4.out.mono ?_
  rintro e w5 ⟨v5, rfl, hR5, hB5⟩
  have HB5 := Aside0.mk (below_step HB4.out hB5)
  have h2 := Kd.R_below HR4.out.1 hB5
  have h3 := Kd.R_below HR4.out.2.1 hB5
  have h4 := Kd.R_below HR4.out.2.2 hB5
  clear H4 HC4 HB4 hB5 HR4
  obtain ⟨a2, c2, rfl, hc2, hC2⟩ := Kd.R_reads h2
  obtain ⟨a3, c3, rfl, hc3, hC3⟩ := Kd.R_reads h3
  obtain ⟨a4, c4, rfl, hc4, hC4⟩ := Kd.R_reads h4
  obtain ⟨a5, c5, rfl, hc5, hC5⟩ := Kd.R_reads hR5
  clear h2 h3 h4 hR5
  have hee : (E2 == E2) = true := by simp
  have hff : (F2 == F2) = true := by simp
  have H5 := Aside0.mk (same_calls a2 c2 a3 c3 E1 w5 hC2 hc2 hC3 hc3 (by omega))
  have HC5 := Aside0.mk (And.intro hC4 hC5)
  clear hC2 hC3 hC4 hC5
  go_wp2_with fail
  refine H5.out.mono ?_
  rintro e w6 ⟨rfl, hD⟩
  obtain ⟨⟨m, rfl⟩⟩ := hD
  have H6 := Aside0.mk (same_calls a4 c4 a5 c5 F1 (w5.drewN m) (Kd.C_drewN HC5.out.1 m) hc4 (Kd.C_drewN HC5.out.2 m) hc5 (by omega))
  clear H5 HC5
  go_wp2_with fail
  refine H6.out.mono ?_
  rintro e w7 ⟨rfl, hD⟩
  obtain ⟨⟨m2, rfl⟩⟩ := hD
  have H7 := Aside0.mk (alive_calls (w5.drewN (m + m2)))
  clear H6
  go_wp2_with fail
  refine H7.out.mono ?_
  rintro e w8 ⟨rfl, hB8⟩
  have HB8 := Aside0.mk (below_step (pw_below_drewN HB5.out (m + m2)) hB8)
  clear H7 HB5 hB8
  go_wp2
  go_ret
  exact ⟨rfl, HB8.out⟩
end Go.Proofs.Ytnnaakinchophaa.Ord
