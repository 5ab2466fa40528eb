/- The reference's out, walked; conditions as written. -/
import Derived.Test.YtnnaakinchophaaOrdP
namespace Go.Proofs.Ytnnaakinchophaa.Ord
set_option linter.unusedVariables false
set_option linter.unusedSimpArgs false
open Go.RowKit Go.Proofs.YtnnaakinchophaaW.PrintWords Go.Proofs.YtnnaakinchophaaW.PrintLast Go.Proofs.YtnnaakinchophaaW.PrintMore

theorem nbA_mem {G : Nat → Nat} {L N v k : Nat} {x : Int} (h : x ∈ nbA G L N v k) : ∃ j : Nat, k ≤ j ∧ j < N ∧ x = (j : Int) ∧ L.testBit j = true ∧ (G v).testBit j = true := by
  unfold nbA at h
  obtain ⟨j, hj, rfl⟩ := List.mem_map.1 h
  obtain ⟨h1, h2⟩ := List.mem_filter.1 hj
  have h3 := List.mem_range'_1.1 h1
  rw [Bool.and_eq_true] at h2
  exact ⟨j, h3.1, by omega, rfl, h2.1, h2.2⟩
theorem rfA_mem {G : Nat → Nat} {L N v : Nat} {p : Int × Int} : ∀ d k : Nat, N - k = d → p ∈ rfA G (nbA G L N v k) → ∃ a b : Nat, a < b ∧ b < N ∧ p = pr a b ∧ L.testBit a = true ∧ L.testBit b = true ∧ (G v).testBit a = true ∧ (G v).testBit b = true ∧ (G a).testBit b = false := by
  intro d
  induction d with
  | zero =>
    intro k hk h
    unfold nbA at h
    rw [hk] at h
    simp [rfA] at h
  | succ d ih =>
    intro k hk h
    rw [nbA_step G L N v k (by omega)] at h
    by_cases hc : (L.testBit k && (G v).testBit k) = true
    · rw [if_pos hc] at h
      have h' : p ∈ rfB G (k : Int) (nbA G L N v (k + 1)) ++ rfA G (nbA G L N v (k + 1)) := h
      rcases List.mem_append.1 h' with h1 | h1
      · unfold rfB at h1
        obtain ⟨x, hx, rfl⟩ := List.mem_map.1 h1
        obtain ⟨hx1, hx2⟩ := List.mem_filter.1 hx
        obtain ⟨j, hj1, hj2, rfl, hj3, hj4⟩ := nbA_mem hx1
        rw [Bool.and_eq_true] at hc
        rw [Int.toNat_natCast, Int.toNat_natCast, Bool.not_eq_true'] at hx2
        exact ⟨k, j, by omega, hj2, rfl, hc.1, hj3, hc.2, hj4, hx2⟩
      · exact ih (k + 1) (by omega) h1
    · rw [if_neg hc] at h
      exact ih (k + 1) (by omega) h
theorem rfill_mem {G : Nat → Nat} {L N v : Nat} {p : Int × Int} (h : p ∈ rfill G L N v) : ∃ a b : Nat, a < b ∧ b < N ∧ p = pr a b ∧ L.testBit a = true ∧ L.testBit b = true ∧ (G v).testBit a = true ∧ (G v).testBit b = true ∧ (G a).testBit b = false := rfA_mem (N - 0) 0 rfl h

/-- What stays when the matrix changes. -/
structure OutK (w w' : World) (N B : Nat) (R : Nat → Nat) : Prop where
  os : w'.os = w.os
  tape : w'.tape = w.tape
  output : w'.output = w.output
  size : w.heap.size ≤ w'.heap.size
  block : ∀ g, g < w.heap.size → g ≠ B → (∀ i, i < N → g ≠ R i) → w'.heap[g]? = w.heap[g]?
theorem OutK.ofBelow {w w' : World} {N B : Nat} {R : Nat → Nat} (h : Below w.heap.size w w') : OutK w w' N B R := ⟨h.os, h.tape, h.output, h.size, fun g hg _ _ => h.block g hg⟩
theorem OutK.below {w w' : World} {N B base : Nat} {R : Nat → Nat} (h : OutK w w' N B R) (hb : base ≤ w.heap.size) (hB : base ≤ B) (hR : ∀ i, i < N → base ≤ R i) : Below base w w' :=
  ⟨h.os, h.tape, h.output, h.size, fun k hk => h.block k (by omega) (by omega) (fun i hi => by have := hR i hi; omega)⟩
theorem OutK.trans {a b c : World} {N B : Nat} {R : Nat → Nat} (h : OutK a b N B R) (k : OutK b c N B R) : OutK a c N B R :=
  ⟨k.os.trans h.os, k.tape.trans h.tape, k.output.trans h.output, Nat.le_trans h.size k.size, fun g hg hB hR => (k.block g (by have := h.size; omega) hB hR).trans (h.block g hg hB hR)⟩
theorem OutK.alloc {w w' : World} {N B : Nat} {R : Nat → Nat} (h : OutK w w' N B R) (o : Obj) : OutK w (w'.alloc o) N B R := h.trans (.ofBelow ((Below.refl _ _).alloc (Nat.le_refl _) o))
theorem OutK.drew {w w' : World} {N B : Nat} {R : Nat → Nat} (h : OutK w w' N B R) : OutK w w'.drew N B R := h.trans (.ofBelow (below_drew (Below.refl _ _)))
theorem OutK.set {w w' : World} {N B : Nat} {R : Nat → Nat} (h : OutK w w' N B R) (g j : Nat) (u : Value) (hg : g = B ∨ ∃ i, i < N ∧ g = R i) : OutK w (w'.setCell ⟨g, j, none⟩ u) N B R := by
  have hs := setCells_same g [u] j w'
  have hz : (w'.setCell ⟨g, j, none⟩ u).heap.size = w'.heap.size := hs.2.2.2
  refine ⟨hs.1.trans h.os, hs.2.1.trans h.tape, hs.2.2.1.trans h.output, by rw [hz]; exact h.size, fun k hk hB hR => ?_⟩
  refine (Below.heap_setCell w' ⟨g, j, none⟩ u k (fun e => ?_)).trans (h.block k hk hB hR)
  have e' : k = g := e
  rcases hg with hg | ⟨i, hi, hg⟩
  · exact hB (by omega)
  · exact hR i hi (by omega)
/-- A row that is no row of Bools stays. -/
theorem R_out {α : Type} {d : Kd α} {e : Nat} {w w' : World} {base b0 N A B : Nat} {R G : Nat → Nat} {L : Nat} {ok : Nat → Prop} {v : Value} {xs : List α} (h : d.R e w base ok v xs) (hM : Mat w N b0 A B R G L) (hf : OutK w w' N B R) (ht : ∀ q, q ∈ e :: d.E → q ≠ 4) : d.R e w' base (fun _ => True) v xs := by
  refine Kd.R_mono (Kd.R_move (Kd.R_bound h) (fun k hk => ?_)) (fun _ _ => trivial)
  obtain ⟨_, _, hlt, q, hq, cells, hc⟩ := hk
  refine hf.block k hlt (fun e => ?_) (fun i hi e => ?_)
  · exact (types_ne hc hM.left (ht q hq)).1 e
  · exact (types_ne hc (hM.row i hi) (ht q hq)).1 e
structure OutI (w wr : World) (N base gb A B : Nat) (R H : Nat → Nat) (L : Nat) (s : Value) (fl : List (Int × Int)) : Prop where
  mat : Mat wr N base A B R H L
  box : wr.heap[gb]? = some (gbox N A B)
  row : Kd.R kp 48 wr w.heap.size (fun _ => True) s fl
  out : OutK w wr N B R
theorem kp_types4 : ∀ q, q ∈ 48 :: kp.E → q ≠ 4 := by
  intro q hq
  have : q = 48 := by simpa [kp, Kd.pair, Kd.int, Kd.scalar] using hq
  omega
theorem OutI.alloc {w wr : World} {N base gb A B : Nat} {R H : Nat → Nat} {L : Nat} {s : Value} {fl : List (Int × Int)} (h : OutI w wr N base gb A B R H L s fl) (o : Obj) : OutI w (wr.alloc o) N base gb A B R H L s fl :=
  ⟨h.mat.alloc o, blk_alloc h.box o, Kd.R_alloc h.row o, h.out.alloc o⟩
theorem OutI.drew {w wr : World} {N base gb A B : Nat} {R H : Nat → Nat} {L : Nat} {s : Value} {fl : List (Int × Int)} (h : OutI w wr N base gb A B R H L s fl) : OutI w wr.drew N base gb A B R H L s fl :=
  ⟨h.mat.drew, h.box, Kd.R_drew h.row, h.out.drew⟩
theorem OutI.add {w wr : World} {N base gb A B : Nat} {R H : Nat → Nat} {L : Nat} {s : Value} {fl : List (Int × Int)} (h : OutI w wr N base gb A B R H L s fl) (a b : Nat) (ha : a < N) : OutI w (wr.setCell ⟨R a, b, none⟩ (.bool true)) N base gb A B R (up H a (sb (H a) b)) L s fl :=
  ⟨h.mat.add a b ha, (Below.heap_setCell _ ⟨R a, b, none⟩ _ gb (types_ne h.box (h.mat.row a ha) (by decide)).1).trans h.box, Kd.R_mono (Kd.R_set h.row (h.mat.row a ha) kp_types4 b _) (fun _ _ => trivial), h.out.set _ _ _ (Or.inr ⟨a, ha, rfl⟩)⟩
set_option maxHeartbeats 4000000 in
set_option maxRecDepth 100000 in
theorem out_calls {w : World} {N base A B : Nat} {R G : Nat → Nat} {L : Nat} (hM : Mat w N base A B R G L) (hN : N ≤ 16) (v : Nat) (hv : v < N) :
    Calls Try.prog 45 #[gval N A B, .int .i64 (v : Int)] w fun e w' => e = .returned (.tuple #[]) ∧ Mat w' N base A B R (addL G (rfill G L N v)) (cb L v) ∧ OutK w w' N B R := by
  have hu61 := Try.underlying61
  have hB0 : (w.alloc (gbox N A B)).heap[w.heap.size]? = some (gbox N A B) := blk_new w _
  obtain ⟨hb0, hb1⟩ := boxC hB0
  have hM2 := hM.alloc (gbox N A B)
  have hO2 : OutK w (w.alloc (gbox N A B)) N B R := (OutK.ofBelow (Below.refl _ _)).alloc _
  have H1 := Aside0.mk (rfill_calls hM2 hN v hv)
  have hcall : gval N A B = .agg #[.slice (some ⟨A, 0, none⟩) N N, .slice (some ⟨B, 0, none⟩) N N] := rfl
  rw [hcall] at H1 ⊢
  clear hM
  go_enter Try.func45, Try.ntmps45
  go_wp2_with fail
  refine H1.out.mono ?_
  rintro e w2 ⟨v2, rfl, hR, hB⟩
  have HI0 : OutI w w2 N base w.heap.size A B R G L v2 (rfill G L N v) := ⟨hM2.below hB, blk_below hB0 hB, Kd.R_lower hR (by simp), hO2.trans (.ofBelow hB)⟩
  have hmem := Aside0.mk (fun p (hp : p ∈ rfill G L N v) => rfill_mem hp)
  have hlen : (rfill G L N v).length ≤ 256 := by
    have h1 : (nb G L N v).length ≤ N := nbA_len G L N v 0
    have h2 := rfA_len G (nb G L N v)
    have h3 : (nb G L N v).length * (nb G L N v).length ≤ 16 * 16 := Nat.mul_le_mul (by omega) (by omega)
    show (rfA G (nb G L N v)).length ≤ 256
    omega
  generalize hFL : rfill G L N v = fl at *
  have HFL := Aside0.mk hFL
  clear hFL
  clear hM2 hB0 hb0 hb1 hB hO2 hR H1 hcall
  obtain ⟨A2, c2, rfl, hc2, hC2⟩ := Kd.R_reads HI0.row
  clear hC2
  go_wp2
  go_loopw [10] (fun s10 wr => ∃ k : Nat, ∃ H : Nat → Nat, k ≤ fl.length ∧ s10 = .int .i64 (k : Int) ∧ Aside0 (addL H (fl.drop k) = addL G fl) ∧ OutI w wr N base w.heap.size A B R H L (.slice A2 fl.length c2) fl) (fun s10 _ => (fl.length - (intOf s10).toNat))
  case atStart => exact ⟨0, G, by omega, rfl, ⟨rfl⟩, HI0⟩
  case round =>
    clear HI0
    obtain ⟨k, H, hk, rfl, HE, HI⟩ := hrel
    by_cases hlt : k < fl.length
    · have hkd : decide (k < fl.length) = true := decide_eq_true hlt
      obtain ⟨_, _, hC⟩ := Kd.R_reads' HI.row
      obtain ⟨ad, had, hx, hy⟩ := kp_at hC k hlt
      have hd := Aside0.mk (drop_getD (0, 0) fl k hlt)
      obtain ⟨a, b, hab, hbN, hp, _⟩ := hmem.out _ (getD_mem (0, 0) fl k hlt)
      rw [hp] at hx hy hd
      have hx' : wr.cell? (ad.add (k * 2)) = some (.int .i64 (a : Int)) := hx
      have hy' : wr.cell? ⟨(ad.add (k * 2)).block, (ad.add (k * 2)).off + 1, none⟩ = some (.int .i64 (b : Int)) := hy
      have haN : a < N := by omega
      have HA := HI.alloc (.cells #[.int .i64 (a : Int), .int .i64 (b : Int)] 48)
      obtain ⟨hb0, hb1⟩ := boxC HA.box
      have hna := HA.mat.nearC a haN
      have hnb := HA.mat.nearC b hbN
      have hra := HA.mat.rowC a b haN hbN
      have hrfa := HA.mat.rowF a b haN
      have hrb := HA.mat.rowC b a hbN haN
      have hrfb := HA.mat.rowF b a hbN
      have hne : R a ≠ R b := fun e => by have := HA.mat.inj a b haN hbN e; omega
      have hne2 : R b ≠ R a := fun e => hne e.symm
      have hwa : R a ≠ wr.heap.size := Nat.ne_of_lt (blk_lt (HI.mat.row a haN))
      have hwb : R b ≠ wr.heap.size := Nat.ne_of_lt (blk_lt (HI.mat.row b hbN))
      have hwa2 : wr.heap.size ≠ R a := fun e => hwa e.symm
      have hwb2 : wr.heap.size ≠ R b := fun e => hwb e.symm
      obtain ⟨hga, hga2⟩ := types_ne HI.box (HI.mat.row a haN) (by decide)
      obtain ⟨hgb, hgb2⟩ := types_ne HI.box (HI.mat.row b hbN) (by decide)
      obtain ⟨hAa, hAa2⟩ := types_ne HI.mat.near (HI.mat.row a haN) (by decide)
      obtain ⟨hAb, hAb2⟩ := types_ne HI.mat.near (HI.mat.row b hbN) (by decide)
      have HZ := Aside0.mk (((HA.add a b haN).add b a hbN).drew)
      have hT : Aside0 (addL (up (up H a (sb (H a) b)) b (sb (up H a (sb (H a) b) b) a)) (fl.drop (k + 1)) = addL G fl) := ⟨by rw [← HE.out, hd.out]; rfl⟩
      subst had
      clear hx hy hC hp HE hd hab HA
      go_wp2
      go_region
      go_wp2
      go_roundw
      case rel => exact ⟨k + 1, _, by omega, by go_num, hT, HZ.out⟩
      case measure => simp [intOf]; omega
    · obtain rfl : k = fl.length := by omega
      have hend : addL G fl = H := by rw [← HE.out, List.drop_length]; rfl
      obtain ⟨hb0, hb1⟩ := boxC HI.box
      have hl := HI.mat.leftC v hv
      have hlf := HI.mat.leftF v
      go_wp2
      go_end0
      rw [HFL.out, hend]
      exact ⟨rfl, HI.mat.unleft v hN, HI.out.set _ _ _ (Or.inl rfl)⟩
end Go.Proofs.Ytnnaakinchophaa.Ord
