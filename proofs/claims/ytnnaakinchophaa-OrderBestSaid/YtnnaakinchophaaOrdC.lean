/- The program's eliminate and of, walked; conditions as written. -/
import Derived.Test.YtnnaakinchophaaOrdB
namespace Go.Proofs.Ytnnaakinchophaa.Ord
set_option linter.unusedVariables false
open Go.RowKit Go.Proofs.YtnnaakinchophaaW.PrintWords Go.Proofs.YtnnaakinchophaaW.PrintLast Go.Proofs.YtnnaakinchophaaW.PrintMore

theorem kp_open {w : World} {x : Int × Int} {cs : List Value} (h : kp.K w x cs) : cs = [.int .i64 x.1, .int .i64 x.2] := by
  obtain ⟨_, _, rfl, rfl, rfl⟩ := h
  rfl
theorem kp_at {w : World} {A : Option Addr} {n : Nat} {xs : List (Int × Int)} (h : Kd.C kp w A n xs) (i : Nat) (h1 : i < n) : ∃ ad, A = some ad ∧ w.cell? (ad.add (i * 2)) = some (.int .i64 (xs.getD i (0, 0)).1) ∧ w.cell? ⟨(ad.add (i * 2)).block, (ad.add (i * 2)).off + 1, none⟩ = some (.int .i64 (xs.getD i (0, 0)).2) := by
  obtain ⟨ad, c, e, _, hK, hc0⟩ := Kd.C_get h (0, 0) (i : Int) (by omega) (by omega)
  have hc : ∀ j u, c[j]? = some u → w.cell? (ad.add (i * 2 + j)) = some u := hc0
  obtain rfl := kp_open hK
  exact ⟨ad, e, hc 0 _ rfl, by rw [← add_field _ _ 1 (by omega)]; exact hc 1 _ rfl⟩

theorem kp_types : ∀ q, q ∈ 48 :: kp.E → q ≠ 53 := by
  intro q hq
  have : q = 48 := by simpa [kp, Kd.pair, Kd.int, Kd.scalar] using hq
  omega
/-- The pairs become neighbors. -/
def addL (G : Nat → Nat) : List (Int × Int) → Nat → Nat
  | [] => G
  | p :: r => addL (up (up G p.1.toNat (sb (G p.1.toNat) p.2.toNat)) p.2.toNat (sb (up G p.1.toNat (sb (G p.1.toNat) p.2.toNat) p.2.toNat) p.1.toNat)) r
theorem misB_mem {G : Nat → Nat} {v a k : Nat} {p : Int × Int} (h : p ∈ misB G v a k) : ∃ b : Nat, k ≤ b ∧ b < 16 ∧ p = pr a b ∧ (G v).testBit b = true ∧ (G a).testBit b = false := by
  unfold misB at h
  obtain ⟨b, hb, rfl⟩ := List.mem_map.1 h
  obtain ⟨h1, h2⟩ := List.mem_filter.1 hb
  obtain ⟨h3, h4⟩ := List.mem_range'_1.1 h1
  simp only [Bool.and_eq_true, Bool.not_eq_true'] at h2
  exact ⟨b, h3, by omega, rfl, h2.1, h2.2⟩
theorem mis_mem {G : Nat → Nat} {v : Nat} {p : Int × Int} (h : p ∈ mis G v) : ∃ a b : Nat, a < b ∧ b < 16 ∧ p = pr a b ∧ (G v).testBit a = true ∧ (G v).testBit b = true ∧ (G a).testBit b = false := by
  unfold mis misA at h
  obtain ⟨a, ha, h⟩ := List.mem_flatMap.1 h
  split at h
  · rename_i h1
    obtain ⟨b, h2, h3, rfl, h4, h5⟩ := misB_mem h
    exact ⟨a, b, by omega, h3, rfl, h1, h4, h5⟩
  · cases h
theorem up_lt {G : Nat → Nat} (hG : ∀ i, G i < 65536) {y : Nat} (hy : y < 65536) (a i : Nat) : up G a y i < 65536 := by
  unfold up
  split
  · exact hy
  · exact hG i
/-- The graph once v is eliminated. -/
def elimF (G : Nat → Nat) (v : Nat) : Nat → Nat := cutF (addL G (mis G v)) v
set_option maxHeartbeats 4000000 in
set_option maxRecDepth 100000 in
theorem eliminate_calls (g v : Nat) (G : Nat → Nat) (w : World) (hg : Arr w g G) (hv : v < 16) (hG : ∀ i, G i < 65536) :
   Calls Try.prog 68 #[.pointer (some ⟨g, 0, none⟩), .int .i64 (v : Int)] w fun e w' => ∃ v0, e = .returned v0 ∧ Kd.R kp 48 w' w.heap.size (fun _ => True) v0 (mis G v) ∧ Arr w' g (elimF G v) ∧ w.grownBy w' (some g) := by
  have hlen := mis_len G v
  go_enter Try.func68, Try.ntmps68
  go_wp2_with fail
  refine (missing_calls g v G _ hg hv hG).mono ?_
  rintro e w1 ⟨v1, rfl, hR1, hB1⟩
  obtain ⟨A1, c1, rfl, hc1, hC1⟩ := Kd.R_reads hR1
  have HR1 := Aside0.mk hR1
  have HC1 := Aside0.mk hC1
  have HA1 := hg.below hB1
  have HG1 := Aside0.mk (grown_of_below hB1 (some g))
  clear hR1 hC1
  go_wp2
  go_loopw [13] (fun s13 wr => ∃ k : Nat, ∃ H : Nat → Nat, k ≤ (mis G v).length ∧ s13 = .int .i64 (k : Int) ∧ Aside0 (addL H ((mis G v).drop k) = addL G (mis G v)) ∧ Aside0 (∀ i, H i < 65536) ∧ Arr wr g H ∧ Aside0 (Kd.R kp 48 wr w.heap.size (fun _ => True) (.slice A1 (mis G v).length c1) (mis G v)) ∧ Aside0 (w.grownBy wr (some g))) (fun s13 _ => ((mis G v).length - (intOf s13).toNat))
  case atStart => exact ⟨0, G, by omega, rfl, ⟨rfl⟩, ⟨hG⟩, HA1, HR1, HG1⟩
  case round =>
    clear HA1 HC1 HR1 HG1 hB1 w1
    obtain ⟨k, H, hk, rfl, HE, HH, HA, HR, HG⟩ := hrel
    by_cases hlt : k < (mis G v).length
    · have hmem : (mis G v).getD k (0, 0) ∈ mis G v := by
        rw [List.getD_eq_getElem?_getD, List.getElem?_eq_getElem hlt]
        exact List.getElem_mem hlt
      obtain ⟨a, b, hab, hb, hp, _, _, _⟩ := mis_mem hmem
      obtain ⟨_, _, hC⟩ := Kd.R_reads' HR.out
      obtain ⟨ad, rfl, hx, hy⟩ := kp_at hC k hlt
      rw [hp] at hx hy
      have hx' : wr.cell? (ad.add (k * 2)) = some (.int .i64 (a : Int)) := hx
      have hy' : wr.cell? ⟨(ad.add (k * 2)).block, (ad.add (k * 2)).off + 1, none⟩ = some (.int .i64 (b : Int)) := hy
      have hdrop : Aside0 ((mis G v).drop k = pr a b :: (mis G v).drop (k + 1)) := ⟨by
        rw [List.drop_eq_getElem_cons hlt, ← hp, List.getD_eq_getElem?_getD, List.getElem?_eq_getElem hlt]
        rfl⟩
      clear hx hy hmem hp hC
      have hma := mod32 (show a < 16 by omega)
      have hmb := mod32 hb
      have hne : g ≠ wr.heap.size := Nat.ne_of_lt HA.lt
      have hne' : wr.heap.size ≠ g := fun h => hne h.symm
      have HA2 := HA.alloc (.cells #[.int .i64 (a : Int), .int .i64 (b : Int)] 48)
      have hca := HA2.cell a (by omega)
      have hfa := HA2.thaw a
      have hor := or_pow (H a) b (Nat.lt_trans (HH.out a) (by decide)) (by omega)
      have HA3 := HA2.set a (sb (H a) b) (by omega)
      have hcb := HA3.cell b (by omega)
      have hfb := HA3.thaw b
      have hor2 := or_pow (up H a (sb (H a) b) b) a (Nat.lt_trans (up_lt HH.out (sb_lt (HH.out a) hb) a b) (by decide)) (by omega)
      have HA4 := HA3.set b (sb (up H a (sb (H a) b) b) a) (by omega)
      have hbk : Kd.R kp 48 _ w.heap.size (fun _ => True) (.slice (some ad) (mis G v).length c1) (mis G v) := Kd.R_drew (Kd.R_set (Kd.R_drew (Kd.R_set (Kd.R_alloc HR.out (.cells #[.int .i64 (a : Int), .int .i64 (b : Int)] 48)) HA2.out kp_types a (.int .u32 (sb (H a) b : Nat)))) HA3.drew.out kp_types b (.int .u32 (sb (up H a (sb (H a) b) b) a : Nat)))
      have HRn := Aside0.mk hbk
      have HGn := Aside0.mk (gb_drew (gb_set (gb_drew (gb_set (gb_alloc HG.out (.cells #[.int .i64 (a : Int), .int .i64 (b : Int)] 48)) a (.int .u32 (sb (H a) b : Nat)))) b (.int .u32 (sb (up H a (sb (H a) b) b) a : Nat))))
      have HHn : Aside0 (∀ i, up (up H a (sb (H a) b)) b (sb (up H a (sb (H a) b) b) a) i < 65536) := ⟨up_lt (up_lt HH.out (sb_lt (HH.out a) hb) a) (sb_lt (up_lt HH.out (sb_lt (HH.out a) hb) a b) (by omega)) b⟩
      clear hbk
      go_wp2
      go_region
      go_wp2
      go_region
      go_wp2
      go_roundw
      case rel => exact ⟨k + 1, _, by omega, by go_num, ⟨by rw [← HE.out, hdrop.out]; rfl⟩, HHn, ((HA3.drew).set b (sb (up H a (sb (H a) b) b) a) (by omega)).drew, HRn, HGn⟩
      case measure => simp [intOf]; omega
    · obtain rfl : k = (mis G v).length := by omega
      have hend : addL G (mis G v) = H := by rw [← HE.out, List.drop_length]; rfl
      go_wp2_with fail
      refine (cut_calls g v H _ HA hv HH.out).mono ?_
      rintro e w2 ⟨rfl, hA2, hG2⟩
      have HA2 := Aside0.mk hA2
      have HG2 := Aside0.mk hG2
      have HE2 := Aside0.mk hend
      clear hA2 hG2 hend
      go_wp2
      go_ret
      refine ⟨_, rfl, ?_, ?_, gb_trans HG.out HG2.out⟩
      · exact Kd.R_grown (Kd.R_types HR.out HA.out kp_types) HG2.out (fun q hq he => hq.2 (Option.some.inj he)) |> fun h => Kd.R_mono h (fun _ _ => trivial)
      · rw [elimF, HE2.out]; exact HA2.out
end Go.Proofs.Ytnnaakinchophaa.Ord
