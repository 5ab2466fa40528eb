/- The reference's neighbors, fill and out, walked; conditions as written. -/
import Derived.Test.YtnnaakinchophaaOrdN
namespace Go.Proofs.Ytnnaakinchophaa.Ord
set_option linter.unusedVariables false
set_option linter.unusedSimpArgs false
open Go.RowKit Go.Proofs.YtnnaakinchophaaW.PrintWords Go.Proofs.YtnnaakinchophaaW.PrintLast Go.Proofs.YtnnaakinchophaaW.PrintMore

def nbA (G : Nat → Nat) (L N v k : Nat) : List Int := ((List.range' k (N - k)).filter fun j => L.testBit j && (G v).testBit j).map fun j : Nat => (j : Int)
/-- The remaining neighbors. -/
def nb (G : Nat → Nat) (L N v : Nat) : List Int := nbA G L N v 0
theorem nbA_end (G : Nat → Nat) (L N v : Nat) : nbA G L N v N = [] := by simp [nbA]
theorem nbA_step (G : Nat → Nat) (L N v k : Nat) (hk : k < N) : nbA G L N v k = (if L.testBit k && (G v).testBit k then [(k : Int)] else []) ++ nbA G L N v (k + 1) := by
  unfold nbA
  rw [show N - k = (N - (k + 1)) + 1 by omega, List.range'_succ, List.filter_cons]
  split <;> simp_all
theorem nbA_len (G : Nat → Nat) (L N v k : Nat) : (nbA G L N v k).length ≤ N := by
  unfold nbA
  rw [List.length_map]
  have h := List.length_filter_le (fun j => L.testBit j && (G v).testBit j) (List.range' k (N - k))
  rw [List.length_range'] at h
  omega
theorem nb_mem {G : Nat → Nat} {L N v : Nat} {x : Int} (h : x ∈ nb G L N v) : ∃ j : Nat, j < N ∧ x = (j : Int) ∧ L.testBit j = true ∧ (G v).testBit j = true := by
  unfold nb nbA at h
  obtain ⟨j, hj, rfl⟩ := List.mem_map.1 h
  obtain ⟨h1, h2⟩ := List.mem_filter.1 hj
  have h3 := (List.mem_range'_1.1 h1).2
  rw [Bool.and_eq_true] at h2
  exact ⟨j, by omega, rfl, h2.1, h2.2⟩
structure NbI (w wr : World) (N base gb A B : Nat) (R G : Nat → Nat) (L : Nat) (s : Value) (acc : List Int) : Prop where
  mat : Mat wr N base A B R G L
  box : wr.heap[gb]? = some (gbox N A B)
  row : Kd.R (Kd.int .i64) 3 wr w.heap.size (fun _ => True) s acc
  bel : Below w.heap.size w wr
theorem boxC {w : World} {N gb A B : Nat} (h : w.heap[gb]? = some (gbox N A B)) : w.cell? ⟨gb, 0, none⟩ = some (.slice (some ⟨A, 0, none⟩) N N) ∧ w.cell? ⟨gb, 1, none⟩ = some (.slice (some ⟨B, 0, none⟩) N N) := ⟨(blk_cell h 0).trans rfl, (blk_cell h 1).trans rfl⟩
theorem NbI.push {w W w1 : World} {N base gb A B : Nat} {R G : Nat → Nat} {L : Nat} {s v1 : Value} {acc acc2 : List Int} (h : NbI w W N base gb A B R G L s acc) (ho : Kd.R (Kd.int .i64) 3 w1 w.heap.size (fun _ => True) v1 acc2) (hb : Below w.heap.size w w1) (hg : W.grownBy w1 s.ownBlock) : NbI w w1 N base gb A B R G L v1 acc2 :=
  ⟨h.mat.grown hg (Kd.R_ne h.row h.mat.near (by decide)) (Kd.R_ne h.row h.mat.left (by decide)) (fun i hi => Kd.R_ne h.row (h.mat.row i hi) (by decide)),
   (hg.block _ (blk_lt h.box) (Kd.R_ne h.row h.box (by decide))).trans h.box, ho, hb⟩
set_option maxHeartbeats 4000000 in
set_option maxRecDepth 100000 in
theorem nb_calls {w : World} {N base A B : Nat} {R G : Nat → Nat} {L : Nat} (hM : Mat w N base A B R G L) (hN : N ≤ 16) (v : Nat) (hv : v < N) :
    Calls Try.prog 43 #[gval N A B, .int .i64 (v : Int)] w fun e w' => ∃ v0, e = .returned v0 ∧ Kd.R (Kd.int .i64) 3 w' w.heap.size (fun _ => True) v0 (nb G L N v) ∧ Below w.heap.size w w' := by
  have hu61 := Try.underlying61
  have HI0 : NbI w (w.alloc (gbox N A B)) N base w.heap.size A B R G L (.slice none 0 0) [] := ⟨hM.alloc _, blk_new w _, Kd.R_nil _ _ _ _ _, (Below.refl _ _).alloc (Nat.le_refl _) _⟩
  have hb0 := (boxC HI0.box).1
  clear hM
  unfold gval
  go_enter Try.func43, Try.ntmps43
  go_wp2
  go_loopw [5, 10] (fun s5 s10 wr => ∃ k : Nat, ∃ acc : List Int, k ≤ N ∧ s10 = .int .i64 (k : Int) ∧ Aside0 (acc ++ nbA G L N v k = nb G L N v) ∧ NbI w wr N base w.heap.size A B R G L s5 acc) (fun _ s10 _ => (N - (intOf s10).toNat))
  case atStart => exact ⟨0, [], by omega, rfl, ⟨rfl⟩, HI0⟩
  case round =>
    clear HI0 hb0
    obtain ⟨k, acc, hk, rfl, HA, HI⟩ := hrel
    by_cases hlt : k < N
    · have hkd : decide (k < N) = true := decide_eq_true hlt
      have hTs := nbA_step G L N v k hlt
      obtain ⟨hb0, hb1⟩ := boxC HI.box
      have hlc := HI.mat.leftC k hlt
      have hnc := HI.mat.nearC v hv
      have hrc := HI.mat.rowC v k hv hlt
      cases htl : L.testBit k with
      | false =>
        rw [htl] at hlc hTs
        have hT : Aside0 (acc ++ nbA G L N v (k + 1) = nb G L N v) := ⟨by rw [← HA.out, hTs]; simp⟩
        clear hTs HA
        go_wp2
        go_roundw
        case rel => exact ⟨k + 1, acc, by omega, by go_num, hT, HI⟩
        case measure => simp [intOf]; omega
      | true =>
        rw [htl] at hlc hTs
        cases htg : (G v).testBit k with
        | false =>
          rw [htg] at hrc hTs
          have hT : Aside0 (acc ++ nbA G L N v (k + 1) = nb G L N v) := ⟨by rw [← HA.out, hTs]; simp⟩
          clear hTs HA
          go_wp2
          go_roundw
          case rel => exact ⟨k + 1, acc, by omega, by go_num, hT, HI⟩
          case measure => simp [intOf]; omega
        | true =>
          rw [htg] at hrc hTs
          have hT : Aside0 ((acc ++ [(k : Int)]) ++ nbA G L N v (k + 1) = nb G L N v) := ⟨by rw [← HA.out, hTs]; simp⟩
          have hL : Aside0 (acc.length ≤ 16) := ⟨by
            have h1 : (nb G L N v).length ≤ N := nbA_len G L N v 0
            rw [← HA.out, List.length_append] at h1
            omega⟩
          clear hTs HA
          go_wp2_with (at_builtin; refine Kd.R_append (Kd.int .i64) (w0 := w) w.heap.size rfl (.tmp 28) (.tmp 30) 25 3 (.int .i64 0) 8 rfl Try.underlying25 info3 rfl (by decide) (by omega) _ acc ((k : Nat) : Int) [.int .i64 (k : Int)] (fun _ => True) (fun _ => False) rfl rfl ?aP (fun _ hk => hk.elim) ?aF ?aO ?aB ?aS ?aL ?_; (case aP => exact rfl); (case aF => exact (fun _ _ => trivial)); (case aO => exact HI.row); (case aB => exact HI.bel); (case aS => exact HI.bel.size); (case aL => have := hL.out; omega); intro v1 w4 ho hb1 hg1 hat1; have HI1 := HI.push ho hb1 hg1; clear ho hb1 hg1 hat1 HI)
          go_roundw
          case rel => exact ⟨k + 1, _, by omega, by go_num, hT, HI1⟩
          case measure => simp [intOf]; omega
    · obtain rfl : k = N := by omega
      go_wp2
      go_ret
      refine ⟨_, rfl, ?_, HI.bel⟩
      have := HA.out
      rw [nbA_end, List.append_nil] at this
      rw [← this]
      exact HI.row

/-! ### fill -/
def rfB (G : Nat → Nat) (a : Int) (r : List Int) : List (Int × Int) := (r.filter fun b => !(G a.toNat).testBit b.toNat).map fun b => (a, b)
def rfA (G : Nat → Nat) : List Int → List (Int × Int)
  | [] => []
  | a :: r => rfB G a r ++ rfA G r
/-- The edges that eliminating v adds. -/
def rfill (G : Nat → Nat) (L N v : Nat) : List (Int × Int) := rfA G (nb G L N v)
theorem rfB_cons (G : Nat → Nat) (a b : Nat) (r : List Int) : rfB G (a : Int) ((b : Int) :: r) = (if (G a).testBit b then [] else [pr a b]) ++ rfB G (a : Int) r := by
  unfold rfB
  rw [List.filter_cons, Int.toNat_natCast, Int.toNat_natCast]
  cases (G a).testBit b <;> simp [pr]
theorem rfB_len (G : Nat → Nat) (a : Int) (r : List Int) : (rfB G a r).length ≤ r.length := by
  unfold rfB
  rw [List.length_map]
  exact List.length_filter_le _ _
theorem rfA_len (G : Nat → Nat) : ∀ l : List Int, (rfA G l).length ≤ l.length * l.length
  | [] => by simp [rfA]
  | a :: r => by
    have h1 := rfB_len G a r
    have h2 := rfA_len G r
    show (rfB G a r ++ rfA G r).length ≤ (r.length + 1) * (r.length + 1)
    rw [List.length_append, Nat.mul_succ, Nat.succ_mul]
    omega
structure FlI (w wr : World) (N base gb A B : Nat) (R G : Nat → Nat) (L : Nat) (s : Value) (acc : List (Int × Int)) (t : Value) (ls : List Int) : Prop where
  mat : Mat wr N base A B R G L
  box : wr.heap[gb]? = some (gbox N A B)
  row : Kd.R kp 48 wr w.heap.size (fun _ => True) s acc
  lst : Kd.R (Kd.int .i64) 3 wr w.heap.size (fun _ => True) t ls
  bel : Below w.heap.size w wr
theorem kp_types2 : ∀ q, q ∈ 3 :: (Kd.int .i64).E → q ≠ 48 := by
  intro q hq
  have : q = 3 := by simpa [Kd.int, Kd.scalar] using hq
  omega
theorem FlI.push {w W w1 : World} {N base gb A B : Nat} {R G : Nat → Nat} {L : Nat} {s v1 t : Value} {acc acc2 : List (Int × Int)} {ls : List Int} (h : FlI w W N base gb A B R G L s acc t ls) (ho : Kd.R kp 48 w1 w.heap.size (fun _ => True) v1 acc2) (hb : Below w.heap.size w w1) (hg : W.grownBy w1 s.ownBlock) : FlI w w1 N base gb A B R G L v1 acc2 t ls :=
  ⟨h.mat.grown hg (Kd.R_ne h.row h.mat.near (by decide)) (Kd.R_ne h.row h.mat.left (by decide)) (fun i hi => Kd.R_ne h.row (h.mat.row i hi) (by decide)),
   (hg.block _ (blk_lt h.box) (Kd.R_ne h.row h.box (by decide))).trans h.box, ho,
   Kd.R_grown2 h.lst rfl hg (fun k hk => by
     obtain ⟨inner, hown⟩ := Kd.R_own h.row
     obtain ⟨cells, hc⟩ := own_typed hown k hk
     exact Kd.R_ne h.lst hc (by decide)), hb⟩
set_option maxHeartbeats 4000000 in
set_option maxRecDepth 100000 in
theorem rfill_calls {w : World} {N base A B : Nat} {R G : Nat → Nat} {L : Nat} (hM : Mat w N base A B R G L) (hN : N ≤ 16) (v : Nat) (hv : v < N) :
    Calls Try.prog 53 #[gval N A B, .int .i64 (v : Int)] w fun e w' => ∃ v0, e = .returned v0 ∧ Kd.R kp 48 w' w.heap.size (fun _ => True) v0 (rfill G L N v) ∧ Below w.heap.size w w' := by
  have hu61 := Try.underlying61
  have hB0 : (w.alloc (gbox N A B)).heap[w.heap.size]? = some (gbox N A B) := blk_new w _
  have hb0 := boxC hB0
  have hM2 := hM.alloc (gbox N A B)
  have hW2 := (Below.refl w.heap.size w).alloc (Nat.le_refl _) (gbox N A B)
  obtain ⟨hb0, hb1⟩ := hb0
  have H1 := Aside0.mk (nb_calls hM2 hN v hv)
  have hcall : gval N A B = .agg #[.slice (some ⟨A, 0, none⟩) N N, .slice (some ⟨B, 0, none⟩) N N] := rfl
  rw [hcall] at H1 ⊢
  clear hM
  go_enter Try.func53, Try.ntmps53
  go_wp2_with fail
  refine H1.out.mono ?_
  rintro e w2 ⟨v2, rfl, hR, hB⟩
  have HI0 : FlI w w2 N base w.heap.size A B R G L (.slice none 0 0) [] v2 (nb G L N v) := ⟨hM2.below hB, blk_below hB0 hB, Kd.R_nil _ _ _ _ _, Kd.R_lower hR (by simp), below_step hW2 hB⟩
  have hmem := Aside0.mk (fun x (hx : x ∈ nb G L N v) => nb_mem hx)
  have hlen : (nb G L N v).length ≤ N := nbA_len G L N v 0
  have hF := Aside0.mk (show rfA G (nb G L N v) = rfill G L N v from rfl)
  have hFL := Aside0.mk (rfA_len G (nb G L N v))
  generalize nb G L N v = ls at *
  clear hM2 hB0 hb0 hb1 hB hW2 hR H1 hcall
  obtain ⟨A2, c2, rfl, hc2, hC2⟩ := Kd.R_reads HI0.lst
  obtain ⟨i3, hi3, hz3⟩ := Option.map_eq_some_iff.1 info3
  have hs3 : i3.size = 1 := by
    simp only [Prod.mk.injEq] at hz3
    exact hz3.2.1
  clear hz3 hC2
  go_wp2
  go_loopw [5, 16] (fun s5 s16 wr => ∃ i : Nat, ∃ acc : List (Int × Int), i ≤ ls.length ∧ s16 = .int .i64 (i : Int) ∧ Aside0 (acc ++ rfA G (ls.drop i) = rfA G ls) ∧ FlI w wr N base w.heap.size A B R G L s5 acc (.slice A2 ls.length c2) ls) (fun _ s16 _ => (ls.length - (intOf s16).toNat))
  case atStart => exact ⟨0, [], by omega, rfl, ⟨rfl⟩, HI0⟩
  case round =>
    clear HI0
    obtain ⟨i, acc, hi, rfl, HA, HI⟩ := hrel
    by_cases hlt : i < ls.length
    · have hkd : decide (i < ls.length) = true := decide_eq_true hlt
      obtain ⟨_, _, hC⟩ := Kd.R_reads' HI.lst
      obtain ⟨ad, had, hx⟩ := kn_at hC i hlt
      have hd := Aside0.mk (drop_getD 0 ls i hlt)
      obtain ⟨a, ha, hxa, _, _⟩ := hmem.out _ (getD_mem 0 ls i hlt)
      rw [hxa] at hx hd
      have hT : Aside0 (acc ++ (rfB G (a : Int) (ls.drop (i + 1)) ++ rfA G (ls.drop (i + 1))) = rfA G ls) := ⟨by rw [← HA.out, hd.out]; rfl⟩
      have hcut := cut_from (P := Try.prog) 25 3 .i64 Try.underlying25 hi3 1 hs3 A2 ls.length c2 ((i : Int) + 1) (by omega) (by omega)
      have e1 : ((i : Int) + 1).toNat = i + 1 := by omega
      rw [e1] at hcut
      obtain ⟨A3, hA3⟩ : ∃ A3, (if c2 = i + 1 then A2 else A2.map (·.add ((i + 1) * 1))) = A3 := ⟨_, rfl⟩
      rw [hA3] at hcut
      have HC3 : Aside0 (∀ w1 : World, Kd.C (Kd.int .i64) w1 A2 ls.length ls → Kd.C (Kd.int .i64) w1 A3 (ls.drop (i + 1)).length (ls.drop (i + 1))) := ⟨fun w1 h => by
        have := Kd.C_drop (c := c2) (m := i + 1) h (by omega) hc2
        rw [← hA3]
        exact this⟩
      have hl3 : ls.length - (i + 1) = (ls.drop (i + 1)).length := by rw [List.length_drop]
      have hmem3 := Aside0.mk (fun x (hx : x ∈ ls.drop (i + 1)) => hmem.out x (List.mem_of_mem_drop hx))
      rw [hl3] at hcut
      have hl4 : (ls.drop (i + 1)).length ≤ 16 := by rw [← hl3]; omega
      have hrest : Aside0 (rfA G (ls.drop (i + 1)) = rfA G (ls.drop (i + 1))) := ⟨rfl⟩
      obtain ⟨rest, hre⟩ : ∃ rest, ls.drop (i + 1) = rest := ⟨_, rfl⟩
      have HRE := Aside0.mk hre
      rw [hre] at hT hcut HC3 hl4 hmem3
      subst had
      clear hA3 e1 hl3 hd hC hxa HA hre hrest
      go_wp2
      go_loopw [5, 26] (fun s5 s26 wr => ∃ q : Nat, ∃ acc : List (Int × Int), q ≤ rest.length ∧ s26 = .int .i64 (q : Int) ∧ Aside0 (acc ++ (rfB G (a : Int) (rest.drop q) ++ rfA G rest) = rfA G ls) ∧ FlI w wr N base w.heap.size A B R G L s5 acc (.slice (some ad) ls.length c2) ls) (fun _ s26 _ => (rest.length - (intOf s26).toNat))
      case atStart => exact ⟨0, acc, by omega, rfl, hT, HI⟩
      case round =>
        clear HI hT hx
        obtain ⟨q, acc, hq, rfl, HA, HI⟩ := hrel
        by_cases hltq : q < rest.length
        · have hkd2 : decide (q < rest.length) = true := decide_eq_true hltq
          obtain ⟨_, _, hC⟩ := Kd.R_reads' HI.lst
          obtain ⟨ad3, rfl, hy⟩ := kn_at (HC3.out _ hC) q hltq
          have hd := Aside0.mk (drop_getD 0 rest q hltq)
          obtain ⟨b, hb, hyb, _, _⟩ := hmem3.out _ (getD_mem 0 rest q hltq)
          rw [hyb] at hy hd
          obtain ⟨hb0, hb1⟩ := boxC HI.box
          have hnc := HI.mat.nearC a ha
          have hrc := HI.mat.rowC a b ha hb
          have hTs := Aside0.mk (rfB_cons G a b (rest.drop (q + 1)))
          clear hyb hC
          cases htg : (G a).testBit b with
          | true =>
            rw [htg] at hrc hTs
            have hT : Aside0 (acc ++ (rfB G (a : Int) (rest.drop (q + 1)) ++ rfA G rest) = rfA G ls) := ⟨by rw [← HA.out, hd.out, hTs.out]; simp⟩
            clear hTs HA hd
            go_wp2
            go_roundw
            case rel => exact ⟨q + 1, acc, by omega, by go_num, hT, HI⟩
            case measure => simp [intOf]; omega
          | false =>
            rw [htg] at hrc hTs
            have hT : Aside0 ((acc ++ [pr a b]) ++ (rfB G (a : Int) (rest.drop (q + 1)) ++ rfA G rest) = rfA G ls) := ⟨by rw [← HA.out, hd.out, hTs.out]; simp⟩
            have hL : Aside0 (acc.length ≤ 256) := ⟨by
              have h1 := hFL.out
              have h2 : ls.length * ls.length ≤ 16 * 16 := Nat.mul_le_mul (by omega) (by omega)
              rw [← HA.out, List.length_append] at h1
              omega⟩
            clear hTs HA hd
            go_wp2_with (at_builtin; refine Kd.R_append kp (w0 := w) w.heap.size rfl (.tmp 39) (.tmp 43) 35 48 (.agg #[.int .i64 0, .int .i64 0]) 16 rfl Try.underlying35 info48 rfl (by decide) (by omega) _ acc (pr a b) [.int .i64 (a : Int), .int .i64 (b : Int)] (fun _ => True) (fun _ => False) rfl rfl ?aP (fun _ hk => hk.elim) ?aF ?aO ?aB ?aS ?aL ?_; (case aP => exact kp_mkM _ _ _ _ _); (case aF => exact (fun _ _ => trivial)); (case aO => exact HI.row); (case aB => exact HI.bel); (case aS => exact HI.bel.size); (case aL => have := hL.out; omega); intro v1 w4 ho hb1 hg1 hat1; have HI1 := FlI.push HI ho hb1 hg1; clear ho hb1 hg1 hat1 HI)
            go_roundw
            case rel => exact ⟨q + 1, _, by omega, by go_num, hT, HI1⟩
            case measure => simp [intOf]; omega
        · obtain rfl : q = rest.length := by omega
          go_wp2
          go_roundw
          case rel => exact ⟨i + 1, acc, by omega, by go_num, ⟨by rw [← HA.out, List.drop_length, HRE.out]; simp [rfB]⟩, HI⟩
          case measure => simp [intOf]; omega
    · obtain rfl : i = ls.length := by omega
      go_wp2
      go_ret
      refine ⟨_, rfl, ?_, HI.bel⟩
      have := HA.out
      rw [List.drop_length] at this
      have h2 : acc = rfA G ls := by rw [← this]; simp [rfA]
      rw [← hF.out, ← h2]
      exact HI.row
end Go.Proofs.Ytnnaakinchophaa.Ord
