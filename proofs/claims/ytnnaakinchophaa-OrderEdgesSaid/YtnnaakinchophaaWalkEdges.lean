/- OrderEdges: Right and Edges agree with the reference; the law, walked; no condition. -/
import Derived.Test.YtnnaakinchophaaOrdN
namespace Go.Proofs.Ytnnaakinchophaa.Ord
set_option linter.unusedVariables false
set_option linter.unusedSimpArgs false
open Go.RowKit Go.Proofs.YtnnaakinchophaaW.PrintWords Go.Proofs.YtnnaakinchophaaW.PrintLast Go.Proofs.YtnnaakinchophaaW.PrintMore
set_option maxHeartbeats 4000000 in
set_option maxRecDepth 100000 in
theorem orderEdges_calls (n : Int) (A : Option Addr) (c : Nat) (l : List (List Int)) (w : World) (hr : Kd.C kl w A l.length l) (hc : l.length ≤ c) :
    Calls Try.prog 6 #[.int .i64 n, .slice A l.length c] w fun e w' => e = .returned (.bool true) ∧ Below w.heap.size w w' := by
  have H0 := Aside0.mk (few_calls n A c l 16 w (by decide) (by decide) hr hc)
  clear hr hc
  go_enter Try.func6, Try.ntmps6
  go_wp2_with fail
  refine H0.out.mono ?_
  rintro e w1 ⟨v1, rfl, hR1, hB1⟩
  clear H0
  obtain ⟨A1, c1, rfl, hc1, hC1⟩ := Kd.R_reads hR1
  generalize fewN n ((16 : Nat) : Int) = n1 at *
  generalize fewL ((16 : Nat) : Int) l = l1 at *
  have HB1 := Aside0.mk hB1
  have H1 := Aside0.mk (edges_calls n1 A1 c1 l1 w1 hC1 hc1)
  clear hR1 hB1
  go_wp2_with fail
  refine H1.out.mono ?_
  rintro e w2 ⟨v2, rfl, hR2, hB2⟩
  have hC2 := Kd.C_below hC1 hB2
  have HB2 := Aside0.mk (below_step HB1.out hB2)
  have H2 := Aside0.mk (redges_calls n1 A1 c1 l1 w2 hC2 hc1)
  clear H1 hC1 HB1 hB2
  go_wp2_with fail
  refine H2.out.mono ?_
  rintro e w3 ⟨v3, rfl, hR3, hB3⟩
  have hC3 := Kd.C_below hC2 hB3
  have hR2' := Kd.R_below hR2 hB3
  have HB3 := Aside0.mk (below_step HB2.out hB3)
  have H3 := Aside0.mk (right_calls n1 A1 c1 l1 w3 hC3 hc1)
  clear H2 hC2 HB2 hB3 hR2
  generalize hE : edgesF n1 l1 = E at *
  obtain ⟨E1, E2⟩ := E
  clear hE
  go_wp2_with fail
  refine H3.out.mono ?_
  rintro e w4 ⟨rfl, hB4⟩
  have H4 := Aside0.mk (rright_calls n1 A1 c1 l1 w4 (Kd.C_below hC3 hB4))
  have hR2 := Kd.R_below hR2' hB4
  have hR3' := Kd.R_below hR3 hB4
  have HB4 := Aside0.mk (below_step HB3.out hB4)
  clear H3 hC3 HB3 hB4 hR2' hR3
  go_wp2_with fail
  refine H4.out.mono ?_
  rintro e w5 ⟨rfl, rfl⟩
  have hbb : (rightF n1 l1 == rightF n1 l1) = true := by simp
  have hee : (E2 == E2) = true := by simp
  obtain ⟨a2, c2, rfl, hc2, hC2⟩ := Kd.R_reads hR2
  obtain ⟨a3, c3, rfl, hc3, hC3⟩ := Kd.R_reads hR3'
  have H5 := Aside0.mk (samePairs_calls a2 c2 a3 c3 E1 w5 hC2 hC3)
  clear H4 hR2 hR3' hC2 hC3
  go_wp2_with fail
  refine H5.out.mono ?_
  rintro e w6 ⟨rfl, hD⟩
  obtain ⟨⟨m, rfl⟩⟩ := hD
  have H6 := Aside0.mk (alive_calls (w5.drewN m))
  clear H5
  go_wp2_with fail
  refine H6.out.mono ?_
  rintro e w7 ⟨rfl, hB7⟩
  have HB7 := Aside0.mk (below_step (pw_below_drewN HB4.out m) hB7)
  clear H6 HB4 hB7
  go_wp2
  go_ret
  exact ⟨rfl, HB7.out⟩
end Go.Proofs.Ytnnaakinchophaa.Ord
