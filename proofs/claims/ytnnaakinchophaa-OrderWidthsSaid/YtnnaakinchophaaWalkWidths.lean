/- OrderWidths: Width and Fill agree with the reference for every order; the law, walked; no condition. -/
import Derived.Test.YtnnaakinchophaaOrdX
namespace Go.Proofs.Ytnnaakinchophaa.Ord
set_option linter.unusedVariables false
set_option linter.unusedSimpArgs false
open Go.RowKit Go.Proofs.YtnnaakinchophaaW.PrintWords Go.Proofs.YtnnaakinchophaaW.PrintLast Go.Proofs.YtnnaakinchophaaW.PrintMore
set_option maxHeartbeats 4000000 in
set_option maxRecDepth 100000 in
theorem orderWidths_calls (n : Int) (A : Option Addr) (c : Nat) (l : List (List Int)) (Ao : Option Addr) (co : Nat) (o : List Int) (w : World) (hr : Kd.C kl w A l.length l) (hc : l.length ≤ c) (ho : Kd.C (Kd.int .i64) w Ao o.length o) (hco : o.length ≤ co) :
    Calls Try.prog 7 #[.int .i64 n, .slice A l.length c, .slice Ao o.length co] w fun e w' => e = .returned (.bool true) ∧ Below w.heap.size w w' := by
  have H0 := Aside0.mk (few_calls n A c l 16 w (by decide) (by decide) hr hc)
  obtain ⟨p, hp⟩ : ∃ p : Nat, min o.length 30 = p := ⟨_, rfl⟩
  have hpl : p ≤ o.length := by omega
  have hmaxo := Kd.C_max ho
  have hpn : mn (o.length : Int) 30 = (p : Int) := by unfold mn; split <;> omega
  have hpn0 : (if 30 < (o.length : Int) then (30 : Int) else (o.length : Int)) = (p : Int) := hpn
  obtain ⟨i3, hi3, _⟩ := Option.map_eq_some_iff.1 info3
  have hcut := cut_to (P := Try.prog) 25 3 .i64 Try.underlying25 hi3 Ao o.length co (p : Int) (by omega) (by omega) hco
  rw [Int.toNat_natCast] at hcut
  have hlp : (o.take p).length = p := by rw [List.length_take]; omega
  have HO := Aside0.mk (Kd.C_take (m := p) ho hpl)
  rw [hlp] at HO
  generalize o.take p = op at *
  subst hlp
  clear hr hc ho
  go_enter Try.func7, Try.ntmps7
  go_wp2_with fail
  refine H0.out.mono ?_
  rintro e w1 ⟨v1, rfl, hR1, hB1⟩
  clear H0
  obtain ⟨A1, c1, rfl, hc1, hC1⟩ := Kd.R_reads hR1
  generalize fewN n ((16 : Nat) : Int) = n1 at *
  generalize fewL ((16 : Nat) : Int) l = l1 at *
  have HB1 := Aside0.mk hB1
  have HO1 := Kd.C_below HO.out hB1
  obtain ⟨q, hq⟩ : ∃ q : Int, mn n1 16 = q := ⟨_, rfl⟩
  have hq0 : (if 16 < n1 then (16 : Int) else n1) = q := hq
  have hq16 : q ≤ 16 := by unfold mn at hq; split at hq <;> omega
  obtain ⟨m, hm⟩ : ∃ m : Nat, mx 0 q = (m : Int) := ⟨(mx 0 q).toNat, by unfold mx; split <;> omega⟩
  have hm0 : (if 0 < q then q else 0) = (m : Int) := hm
  have hm16 : m ≤ 16 := by unfold mx at hm; split at hm <;> omega
  have H2 := Aside0.mk (lordered_calls Ao co op m w1 hm16 HO1)
  have HC1 := Aside0.mk hC1
  clear hR1 hB1 HO
  go_wp2_with fail
  refine H2.out.mono ?_
  rintro e w2 ⟨v2, xs, rfl, hR2, hB2, -, -⟩
  clear H2
  obtain ⟨A2, c2, rfl, hc2, hC2⟩ := Kd.R_reads hR2
  have HB2 := below_step HB1.out hB2
  obtain ⟨W0, hW0⟩ : ∃ W0 : World, w2.alloc (.cells #[.slice Ao op.length co, .slice A2 xs.length c2] 25) = W0 := ⟨_, rfl⟩
  have hbA : Below w2.heap.size w2 W0 := by rw [← hW0]; exact (Below.refl _ _).alloc (Nat.le_refl _) _
  have HL0 := Aside0.mk (Kd.C_below (Kd.C_below HC1.out hB2) hbA)
  have HO0 := Aside0.mk (Kd.C_below (Kd.C_below HO1 hB2) hbA)
  have HX0 := Aside0.mk (Kd.C_below hC2 hbA)
  have hblk : W0.heap[w2.heap.size]? = some (.cells #[.slice Ao op.length co, .slice A2 xs.length c2] 25 (0, 0)) := by rw [← hW0]; exact blk_new _ _
  have HK := Aside0.mk (fun k (hk : k < 2) => (show ∃ Ax cx ox, W0.cell? ⟨w2.heap.size, k, none⟩ = some (.slice Ax (List.length ox) cx) ∧ Kd.C (Kd.int .i64) W0 Ax ox.length ox from by
    rcases (show k = 0 ∨ k = 1 by omega) with rfl | rfl
    · exact ⟨Ao, co, op, (blk_cell hblk 0).trans rfl, HO0.out⟩
    · exact ⟨A2, c2, xs, (blk_cell hblk 1).trans rfl, HX0.out⟩))
  have HB0 := Aside0.mk (HB2.trans ((hbA.mono HB2.size)))
  clear hR2 hB2 hC2 HC1 HO1 HB1 HB2 hbA HO0 HX0 hblk
  go_wp2
  go_loopw [36] (fun s36 wr => ∃ k : Nat, k ≤ 2 ∧ s36 = .int .i64 (k : Int) ∧ Aside0 (Below W0.heap.size W0 wr)) (fun s36 _ => (2 - (intOf s36).toNat))
  case atStart => exact ⟨0, by omega, rfl, ⟨by first | exact Below.refl _ _ | (rw [hW0]; exact Below.refl _ _)⟩⟩
  case round =>
    obtain ⟨k, hk, rfl, HB⟩ := hrel
    by_cases hlt : k < 2
    · have hltb : decide ((k : Int) < 2) = true := decide_eq_true (by omega)
      obtain ⟨Ax, cx, ox, hx0, hCx⟩ := HK.out k hlt
      have hx := pw_cell_below HB.out hx0
      have HX := Kd.C_below hCx HB.out
      have HL := Kd.C_below HL0.out HB.out
      have H1 := Aside0.mk (width_calls n1 A1 c1 l1 Ax cx ox wr HL hc1 HX)
      have HC := Aside0.mk (And.intro HL HX)
      clear hx0 hCx HL HX
      go_wp2_with fail
      refine H1.out.mono ?_
      rintro e w3 ⟨rfl, hb⟩
      have H2 := Aside0.mk (rwidth_calls n1 A1 c1 l1 Ax cx ox w3 (Kd.C_below HC.out.1 hb) hc1 (Kd.C_below HC.out.2 hb))
      rw [played_same] at H2
      have HC3 := Aside0.mk (And.intro (Kd.C_below HC.out.1 hb) (Kd.C_below HC.out.2 hb))
      have HB3 := Aside0.mk (below_step HB.out hb)
      clear H1 HC HB hb hx
      go_wp2_with fail
      refine H2.out.mono ?_
      rintro e w4 ⟨rfl, hb⟩
      have H3 := Aside0.mk (fill_calls n1 A1 c1 l1 Ax cx ox w4 (Kd.C_below HC3.out.1 hb) hc1 (Kd.C_below HC3.out.2 hb))
      have HC4 := Aside0.mk (And.intro (Kd.C_below HC3.out.1 hb) (Kd.C_below HC3.out.2 hb))
      have HB4 := Aside0.mk (below_step HB3.out hb)
      clear H2 HC3 HB3 hb
      go_wp2_with fail
      refine H3.out.mono ?_
      rintro e w5 ⟨v5, rfl, hR5, hb⟩
      have H4 := Aside0.mk (rfillall_calls n1 A1 c1 l1 Ax cx ox w5 (Kd.C_below HC4.out.1 hb) hc1 (Kd.C_below HC4.out.2 hb))
      rw [played_same] at H4
      have HB5 := Aside0.mk (below_step HB4.out hb)
      clear H3 HC4 HB4 hb
      generalize playedF n1 l1 ox = P at *
      obtain ⟨P1, P2, P3⟩ := P
      have hq1 : (P1 != P1) = false := by simp
      have hq3 : (P3 != P3) = false := by simp
      go_wp2_with fail
      refine H4.out.mono ?_
      rintro e w6 ⟨v6, rfl, hR6, hb⟩
      have hR5' := Kd.R_below hR5 hb
      have HB6 := Aside0.mk (below_step HB5.out hb)
      obtain ⟨a5, c5, rfl, hc5, hC5⟩ := Kd.R_reads hR5'
      obtain ⟨a6, c6, rfl, hc6, hC6⟩ := Kd.R_reads hR6
      have H5 := Aside0.mk (samePairs_calls a5 c5 a6 c6 P2 w6 hC5 hC6)
      clear H4 HB5 hb hR5 hR5' hR6 hC5 hC6
      go_wp2_with fail
      refine H5.out.mono ?_
      rintro e w7 ⟨rfl, hD⟩
      obtain ⟨⟨m7, rfl⟩⟩ := hD
      have HB7 := Aside0.mk (pw_below_drewN HB6.out m7)
      clear H5 HB6
      go_wp2
      go_roundw
      case rel => exact ⟨k + 1, by omega, by go_num, HB7⟩
      case measure => simp [intOf]; omega
    · obtain rfl : k = 2 := by omega
      have H6 := Aside0.mk (alive_calls wr)
      go_wp2_with fail
      refine H6.out.mono ?_
      rintro e w8 ⟨rfl, hb⟩
      have HB8 := Aside0.mk (HB0.out.trans ((below_step HB.out hb).mono HB0.out.size))
      clear H6 hb
      go_wp2
      go_ret
      exact ⟨rfl, HB8.out⟩
end Go.Proofs.Ytnnaakinchophaa.Ord
