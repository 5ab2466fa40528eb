/- OrderLower: Lower and Chordal agree with the reference, errors included; the law, walked; no condition. -/
import Derived.Test.YtnnaakinchophaaOrdT
namespace Go.Proofs.Ytnnaakinchophaa.Ord
set_option linter.unusedVariables false
set_option linter.unusedSimpArgs false
open Go.RowKit Go.Proofs.YtnnaakinchophaaW.PrintWords Go.Proofs.YtnnaakinchophaaW.PrintLast Go.Proofs.YtnnaakinchophaaW.PrintMore
set_option maxHeartbeats 4000000 in
set_option maxRecDepth 100000 in
theorem orderLower_calls (n : Int) (A : Option Addr) (c : Nat) (l : List (List Int)) (w : World) (hr : Kd.C kl w A l.length l) (hc : l.length ≤ c) :
    Calls Try.prog 12 #[.int .i64 n, .slice A l.length c] w fun e w' => e = .returned (.bool true) ∧ Below w.heap.size w w' := by
  have H0 := Aside0.mk (few_calls n A c l 16 w (by decide) (by decide) hr hc)
  clear hr hc
  go_enter Try.func12, Try.ntmps12
  go_wp2_with fail
  refine H0.out.mono ?_
  rintro e w1 ⟨v1, rfl, hR1, hB1⟩
  clear H0
  obtain ⟨A1, c1, rfl, hc1, hC1⟩ := Kd.R_reads hR1
  generalize fewN n ((16 : Nat) : Int) = n1 at *
  generalize fewL ((16 : Nat) : Int) l = l1 at *
  have HB1 := Aside0.mk hB1
  have H1 := Aside0.mk (lower_calls n1 A1 c1 l1 w1 hC1 hc1)
  have hE := lower_same n1 l1
  have hF := chord_same n1 l1
  generalize hEe : lowerF n1 l1 = E at *
  generalize hFe : chordF n1 l1 = F at *
  obtain ⟨E1, E2⟩ := E
  obtain ⟨F1, F2⟩ := F
  have HC1 := Aside0.mk hC1
  clear hR1 hB1 hC1
  go_wp2_with fail
  refine H1.out.mono ?_
  rintro e w2 ⟨rfl, hB2⟩
  have HC2 := Aside0.mk (Kd.C_below HC1.out hB2)
  have HB2 := Aside0.mk (below_step HB1.out hB2)
  have H2 := Aside0.mk (rlower_calls n1 A1 c1 l1 w2 HC2.out hc1)
  rw [hE] at H2
  clear H1 HC1 HB1 hB2 hE hEe
  go_wp2_with fail
  refine H2.out.mono ?_
  rintro e w3 ⟨rfl, hB3⟩
  have HC3 := Aside0.mk (Kd.C_below HC2.out hB3)
  have HB3 := Aside0.mk (below_step HB2.out hB3)
  have H3 := Aside0.mk (chordal_calls n1 A1 c1 l1 w3 HC3.out hc1)
  rw [hFe] at H3
  clear H2 HC2 HB2 hB3 hFe
  go_wp2_with fail
  refine H3.out.mono ?_
  rintro e w4 ⟨rfl, hB4⟩
  have HC4 := Aside0.mk (Kd.C_below HC3.out hB4)
  have HB4 := Aside0.mk (below_step HB3.out hB4)
  have H4 := Aside0.mk (rchordal_calls n1 A1 c1 l1 w4 HC4.out hc1)
  rw [hF] at H4
  clear H3 HC3 HB3 hB4 hF
  go_wp2_with fail
  refine H4.out.mono ?_
  rintro e w5 ⟨rfl, hB5⟩
  have HB5 := Aside0.mk (below_step HB4.out hB5)
  have h1 : (E2 == E2) = true := by simp
  have h2 : (E1 == E1) = true := by simp
  have h3 : (F2 == F2) = true := by simp
  have h4 : (F1 == F1) = true := by simp
  have H7 := Aside0.mk (alive_calls w5)
  clear H4 HB4 hB5 HC4
  go_wp2_with fail
  refine H7.out.mono ?_
  rintro e w8 ⟨rfl, hB8⟩
  have HB8 := Aside0.mk (below_step HB5.out hB8)
  clear H7 HB5 hB8
  go_wp2
  go_ret
  exact ⟨rfl, HB8.out⟩
end Go.Proofs.Ytnnaakinchophaa.Ord
