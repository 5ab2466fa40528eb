/- The program's greedy and the reference's cost, walked; conditions as written. -/
import Derived.Test.YtnnaakinchophaaOrdX
namespace Go.Proofs.Ytnnaakinchophaa.Ord
set_option linter.unusedVariables false
set_option linter.unusedSimpArgs false
open Go.RowKit Go.Proofs.YtnnaakinchophaaW.PrintWords Go.Proofs.YtnnaakinchophaaW.PrintLast Go.Proofs.YtnnaakinchophaaW.PrintMore
set_option maxHeartbeats 1000000 in
theorem index_calls (A : Option Addr) (c : Nat) (xs : List Int) (x : Int) (w : World) (hr : Kd.C (Kd.int .i64) w A xs.length xs) :
    Calls Try.prog 71 #[.slice A xs.length c, .int .i64 x] w fun e w' => e = .returned (.int .i64 (idxF (fun y => x == y) xs)) ∧ w' = w := by
  have hmax := Kd.C_max hr
  have HR := Aside0.mk hr
  clear hr
  go_enter Try.func71, Try.ntmps71
  go_wp2
  go_loopw [8] (fun s8 wr => ∃ k : Nat, k ≤ xs.length ∧ s8 = .int .i64 (k : Int) ∧ Aside0 (∀ j, j < k → (x == xs.getD j 0) = false) ∧ wr = w) (fun s8 _ => (xs.length - (intOf s8).toNat))
  case atStart => exact ⟨0, by omega, rfl, ⟨fun j hj => absurd hj (by omega)⟩, rfl⟩
  case round =>
    obtain ⟨k, hk, rfl, HA, rfl⟩ := hrel
    by_cases hlt : k < xs.length
    · obtain ⟨ad, rfl, hx⟩ := kn_at HR.out k hlt
      obtain ⟨z, hz⟩ : ∃ z, xs.getD k 0 = z := ⟨_, rfl⟩
      rw [hz] at hx
      have HZ := Aside0.mk hz
      clear hz
      cases hq : (x == z) with
      | true =>
        have HI := Aside0.mk (idxF_at (fun y => x == y) 0 xs k hlt HA.out (by rw [HZ.out]; exact hq))
        go_wp2
        go_ret
        exact ⟨by rw [HI.out]; rfl, rfl⟩
      | false =>
        have HN : Aside0 (∀ j, j < k + 1 → (x == xs.getD j 0) = false) := ⟨fun j hj => by
          rcases Nat.lt_or_ge j k with h | h
          · exact HA.out j h
          · obtain rfl : j = k := by omega
            rw [HZ.out]; exact hq⟩
        go_wp2
        go_roundw
        case rel => exact ⟨k + 1, by omega, by go_num, HN, trivial⟩
        case measure => simp [intOf]; omega
    · obtain rfl : k = xs.length := by omega
      have HI := Aside0.mk (idxF_none (fun y => x == y) xs (fun y hy => by
        obtain ⟨j, hj, rfl⟩ := List.getElem_of_mem hy
        have := HA.out j hj
        rwa [List.getD_eq_getElem?_getD, List.getElem?_eq_getElem hj] at this))
      go_wp2
      go_ret
      exact ⟨by rw [HI.out]; rfl, rfl⟩
set_option maxHeartbeats 1000000 in
theorem contains_calls (A : Option Addr) (c : Nat) (xs : List Int) (x : Int) (w : World) (hr : Kd.C (Kd.int .i64) w A xs.length xs) :
    Calls Try.prog 69 #[.slice A xs.length c, .int .i64 x] w fun e w' => e = .returned (.bool (xs.any fun y => x == y)) ∧ w' = w := by
  have H := Aside0.mk (index_calls A c xs x w hr)
  have HG := Aside0.mk (idxF_ge (fun y => x == y) xs)
  generalize idxF (fun y => x == y) xs = ix at *
  clear hr
  go_enter Try.func69, Try.ntmps69
  go_wp2_with (go_at_call 71; refine H.out.mono ?_; rintro e w' ⟨rfl, rfl⟩)
  go_ret
  exact ⟨by rw [← HG.out]; rfl, rfl⟩
/-- What MinFill's cost says. -/
def cfF (H : Nat → Nat) (v : Nat) : Int := ((mis H v).length : Int)
def cfD (H : Nat → Nat) (v : Nat) : Int := (popc (H v) : Int)
set_option maxHeartbeats 400000 in
theorem minFill1_calls (g v : Nat) (H : Nat → Nat) (w : World) (hg : Arr w g H) (hv : v < 16) (hH : ∀ i, H i < 65536) :
    Calls Try.prog 57 #[.pointer (some ⟨g, 0, none⟩), .int .i64 (v : Int)] w fun e w' => e = .returned (.int .i64 (cfF H v)) ∧ Below w.heap.size w w' := by
  have H1 := Aside0.mk (missing_calls g v H w hg hv hH)
  unfold cfF
  go_enter Try.func57, Try.ntmps57
  go_wp2_with fail
  refine H1.out.mono ?_
  rintro e w1 ⟨v1, rfl, hR, hB⟩
  obtain ⟨A1, c1, rfl, hc1, hC1⟩ := Kd.R_reads hR
  have HB := Aside0.mk hB
  clear hR hB hC1 H1
  go_wp2
  go_ret
  exact ⟨rfl, HB.out⟩
theorem degree_calls' (g v : Nat) (H : Nat → Nat) (w : World) (hg : Arr w g H) (hv : v < 16) (hH : ∀ i, H i < 65536) :
    Calls Try.prog 55 #[.pointer (some ⟨g, 0, none⟩), .int .i64 (v : Int)] w fun e w' => e = .returned (.int .i64 (cfD H v)) ∧ Below w.heap.size w w' :=
  (degree_calls g v H w hg hv (hH v)).mono fun e w' ⟨he, hd⟩ => ⟨he, by obtain ⟨⟨m, rfl⟩⟩ := hd; exact pw_below_drewN (Below.refl _ _) m⟩
set_option maxHeartbeats 400000 in
theorem rcost_calls {w : World} {N base A B : Nat} {R G : Nat → Nat} {L : Nat} (hM : Mat w N base A B R G L) (hN : N ≤ 16) (v : Nat) (hv : v < N) (b : Bool) :
    Calls Try.prog 70 #[gval N A B, .int .i64 (v : Int), .bool b] w fun e w' => e = .returned (.int .i64 (if b then ((rfill G L N v).length : Int) else ((nb G L N v).length : Int))) ∧ Below w.heap.size w w' := by
  have hu61 := Try.underlying61
  have hB0 : (w.alloc (gbox N A B)).heap[w.heap.size]? = some (gbox N A B) := blk_new w _
  obtain ⟨hb0, hb1⟩ := boxC hB0
  have hM2 := hM.alloc (gbox N A B)
  have HW2 := Aside0.mk ((Below.refl w.heap.size w).alloc (Nat.le_refl _) (gbox N A B))
  have H1 := Aside0.mk (nb_calls hM2 hN v hv)
  have H2 := Aside0.mk (rfill_calls hM2 hN v hv)
  have hcall : gval N A B = .agg #[.slice (some ⟨A, 0, none⟩) N N, .slice (some ⟨B, 0, none⟩) N N] := rfl
  rw [hcall] at H1 H2 ⊢
  clear hM hM2 hB0
  cases b with
  | true =>
    go_enter Try.func70, Try.ntmps70
    go_wp2_with fail
    refine H2.out.mono ?_
    rintro e w1 ⟨v1, rfl, hR, hB⟩
    obtain ⟨A1, c1, rfl, hc1, hC1⟩ := Kd.R_reads hR
    have HB := Aside0.mk (below_step HW2.out hB)
    clear hR hB hC1 H1 H2 HW2
    go_wp2
    go_ret
    exact ⟨rfl, HB.out⟩
  | false =>
    go_enter Try.func70, Try.ntmps70
    go_wp2_with fail
    refine H1.out.mono ?_
    rintro e w1 ⟨v1, rfl, hR, hB⟩
    obtain ⟨A1, c1, rfl, hc1, hC1⟩ := Kd.R_reads hR
    have HB := Aside0.mk (below_step HW2.out hB)
    clear hR hB hC1 H1 H2 HW2
    go_wp2
    go_ret
    exact ⟨rfl, HB.out⟩
end Go.Proofs.Ytnnaakinchophaa.Ord
