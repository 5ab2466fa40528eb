/- The reference's Right, Edges, neighbors, fill and out, walked; conditions as written. -/
import Derived.Test.YtnnaakinchophaaOrdL
namespace Go.Proofs.Ytnnaakinchophaa.Ord
set_option linter.unusedVariables false
set_option linter.unusedSimpArgs false
open Go.RowKit Go.Proofs.YtnnaakinchophaaW.PrintWords Go.Proofs.YtnnaakinchophaaW.PrintLast Go.Proofs.YtnnaakinchophaaW.PrintMore

set_option maxHeartbeats 4000000 in
set_option maxRecDepth 100000 in
theorem rright_calls (n : Int) (A : Option Addr) (c : Nat) (l : List (List Int)) (w : World) (hr : Kd.C kl w A l.length l) :
    Calls Try.prog 19 #[.int .i64 n, .slice A l.length c] w fun e w' => e = .returned (.bool (rightF n l)) ∧ w' = w := by
  have hmax := Kd.C_max hr
  have HR := Aside0.mk hr
  have e0 := Aside0.mk (show rightF n l = (decide (0 ≤ n ∧ n ≤ 16 ∧ l.length ≤ 1000) && !l.any (offR n)) from rfl)
  clear hr
  by_cases h0 : n < 0
  · have e1 : Aside0 (rightF n l = false) := ⟨by rw [e0.out, decide_eq_false (by omega)]; rfl⟩
    have hb0 : decide (n < 0) = true := decide_eq_true h0
    rw [e1.out]
    go_enter Try.func19, Try.ntmps19
    go_wp2
    go_ret
    exact ⟨rfl, rfl⟩
  · have hb0 : decide (n < 0) = false := decide_eq_false h0
    by_cases h1 : 16 < n
    · have e1 : Aside0 (rightF n l = false) := ⟨by rw [e0.out, decide_eq_false (by omega)]; rfl⟩
      have hb1 : decide (16 < n) = true := decide_eq_true h1
      rw [e1.out]
      go_enter Try.func19, Try.ntmps19
      go_wp2
      go_ret
      exact ⟨rfl, rfl⟩
    · have hb1 : decide (16 < n) = false := decide_eq_false h1
      by_cases h2 : 1000 < l.length
      · have e1 : Aside0 (rightF n l = false) := ⟨by rw [e0.out, decide_eq_false (by omega)]; rfl⟩
        have h2b : decide (1000 < (l.length : Int)) = true := decide_eq_true (by omega)
        rw [e1.out]
        go_enter Try.func19, Try.ntmps19
        go_wp2
        go_ret
        exact ⟨rfl, rfl⟩
      · have e1 : Aside0 (rightF n l = !l.any (offR n)) := ⟨by rw [e0.out, decide_eq_true (by omega)]; rfl⟩
        have h2b : decide (1000 < (l.length : Int)) = false := decide_eq_false (by omega)
        rw [e1.out]
        go_enter Try.func19, Try.ntmps19
        go_wp2
        go_loopw [22] (fun s22 wr => ∃ k : Nat, k ≤ l.length ∧ s22 = .int .i64 (k : Int) ∧ Aside0 ((l.drop k).any (offR n) = l.any (offR n)) ∧ wr = w) (fun s22 _ => (l.length - (intOf s22).toNat))
        case atStart => exact ⟨0, by omega, rfl, ⟨rfl⟩, rfl⟩
        case round =>
          obtain ⟨k, hk, rfl, HA, rfl⟩ := hrel
          by_cases hlt : k < l.length
          · obtain ⟨ad, A0, c0, rfl, hx, hc0, hC0⟩ := kl_at HR.out k hlt
            have hd := Aside0.mk (drop_getD [] l k hlt)
            generalize l.getD k [] = x at *
            have hC0m := Kd.C_max hC0
            have HC0 := Aside0.mk hC0
            have hE : Aside0 ((offR n x || (l.drop (k + 1)).any (offR n)) = l.any (offR n)) := ⟨by rw [← HA.out, hd.out]; rfl⟩
            clear hd HA hC0
            by_cases hx1 : 100 < x.length
            · have hx1b : decide (100 < (x.length : Int)) = true := decide_eq_true (by omega)
              have hf : Aside0 ((!l.any (offR n)) = false) := ⟨by rw [← hE.out, show offR n x = true from by unfold offR; rw [decide_eq_true hx1]; rfl]; rfl⟩
              go_wp2
              go_ret
              exact ⟨by rw [hf.out]; rfl, rfl⟩
            · have hx1b : decide (100 < (x.length : Int)) = false := decide_eq_false (by omega)
              have hE2 : Aside0 ((x.any (offB n) || (l.drop (k + 1)).any (offR n)) = l.any (offR n)) := ⟨by rw [← hE.out, show offR n x = x.any (offB n) from by unfold offR; rw [decide_eq_false hx1]; rfl]⟩
              clear hE
              go_wp2
              go_loopw [31] (fun s31 wr2 => ∃ j : Nat, j ≤ x.length ∧ s31 = .int .i64 (j : Int) ∧ Aside0 (((x.drop j).any (offB n) || (l.drop (k + 1)).any (offR n)) = l.any (offR n)) ∧ wr2 = wr) (fun s31 _ => (x.length - (intOf s31).toNat))
              case atStart => exact ⟨0, by omega, rfl, hE2, rfl⟩
              case round =>
                clear hE2
                obtain ⟨j, hj, rfl, HA, rfl⟩ := hrel
                by_cases hltj : j < x.length
                · obtain ⟨ad2, rfl, hy⟩ := kn_at HC0.out j hltj
                  have hd := Aside0.mk (drop_getD 0 x j hltj)
                  generalize x.getD j 0 = y at *
                  have hE : Aside0 ((offB n y || (x.drop (j + 1)).any (offB n) || (l.drop (k + 1)).any (offR n)) = l.any (offR n)) := ⟨by rw [← HA.out, hd.out]; rfl⟩
                  clear hd HA
                  by_cases hy0 : y < 0
                  · have hy0b : decide (y < 0) = true := decide_eq_true hy0
                    have hf : Aside0 ((!l.any (offR n)) = false) := ⟨by rw [← hE.out, show offB n y = true from decide_eq_true (Or.inl hy0)]; rfl⟩
                    go_wp2
                    go_ret
                    exact ⟨by rw [hf.out]; rfl, rfl⟩
                  · have hy0b : decide (y < 0) = false := decide_eq_false hy0
                    by_cases hy1 : n ≤ y
                    · have hy1b : decide (n ≤ y) = true := decide_eq_true hy1
                      have hf : Aside0 ((!l.any (offR n)) = false) := ⟨by rw [← hE.out, show offB n y = true from decide_eq_true (Or.inr hy1)]; rfl⟩
                      go_wp2
                      go_ret
                      exact ⟨by rw [hf.out]; rfl, rfl⟩
                    · have hy1b : decide (n ≤ y) = false := decide_eq_false hy1
                      have hE2 : Aside0 (((x.drop (j + 1)).any (offB n) || (l.drop (k + 1)).any (offR n)) = l.any (offR n)) := ⟨by rw [← hE.out, show offB n y = false from decide_eq_false (by omega), Bool.false_or]⟩
                      clear hE
                      go_wp2
                      go_roundw
                      case rel => exact ⟨j + 1, by omega, by go_num, hE2, trivial⟩
                      case measure => simp [intOf]; omega
                · obtain rfl : j = x.length := by omega
                  go_wp2
                  go_roundw
                  case rel => exact ⟨k + 1, by omega, by go_num, ⟨by rw [← HA.out, List.drop_length]; rfl⟩, trivial⟩
                  case measure => simp [intOf]; omega
          · obtain rfl : k = l.length := by omega
            have hf : Aside0 ((!l.any (offR n)) = true) := ⟨by rw [← HA.out, List.drop_length]; rfl⟩
            go_wp2
            go_ret
            exact ⟨by rw [hf.out]; rfl, rfl⟩

theorem R_isoL {α β : Type} {d : Kd α} (f : β → α) (g : α → β) (hfg : ∀ x, f (g x) = x) {e : Nat} {w : World} {base : Nat} {ok : Nat → Prop} {v : Value} {xs : List α} (h : d.R e w base ok v xs) : (Kd.iso d f).R e w base ok v (xs.map g) := by
  obtain ⟨h1, inner, ho, hr⟩ := h
  refine ⟨h1, inner, ?_, ?_⟩
  · rw [List.length_map]; exact ho
  · refine ⟨by rw [List.length_map]; exact hr.1, fun j p hj => ?_⟩
    rw [List.getElem?_map, Option.map_eq_some_iff] at hj
    obtain ⟨q, hq, rfl⟩ := hj
    have h2 := hr.2 j q hq
    show d.M w base _ (f (g q)) _
    rw [hfg]
    exact h2
/-- The graph in memory, as a value. -/
def gval (N A B : Nat) : Value := .agg #[.slice (some ⟨A, 0, none⟩) N N, .slice (some ⟨B, 0, none⟩) N N]
structure ReI (w wr : World) (N gb A B : Nat) (R G : Nat → Nat) (s : Value) (acc : List (Int × Int)) : Prop where
  mat : Mat wr N w.heap.size A B R G (2 ^ N - 1)
  box : wr.heap[gb]? = some (gbox N A B)
  row : Kd.R kp 48 wr w.heap.size (fun _ => True) s acc
  bel : Below w.heap.size w wr
theorem ReI.boxC {w wr : World} {N gb A B : Nat} {R G : Nat → Nat} {s : Value} {acc : List (Int × Int)} (h : ReI w wr N gb A B R G s acc) : wr.cell? ⟨gb, 0, none⟩ = some (.slice (some ⟨A, 0, none⟩) N N) ∧ wr.cell? ⟨gb, 1, none⟩ = some (.slice (some ⟨B, 0, none⟩) N N) := ⟨(blk_cell h.box 0).trans rfl, (blk_cell h.box 1).trans rfl⟩
theorem Mat.grown {w w1 : World} {n base A B : Nat} {R N : Nat → Nat} {L : Nat} (h : Mat w n base A B R N L) {row : Option Nat} (hg : w.grownBy w1 row) (hA : some A ≠ row) (hB : some B ≠ row) (hR : ∀ i, i < n → some (R i) ≠ row) : Mat w1 n base A B R N L :=
  ⟨(hg.block _ (blk_lt h.near) hA).trans h.near, (hg.block _ (blk_lt h.left) hB).trans h.left, fun i hi => (hg.block _ (blk_lt (h.row i hi)) (hR i hi)).trans (h.row i hi), h.inj, h.neB, h.baseA, h.baseB, h.baseR⟩
theorem ReI.push {w W w1 : World} {N gb A B : Nat} {R G : Nat → Nat} {s v1 : Value} {acc acc2 : List (Int × Int)} (h : ReI w W N gb A B R G s acc) (ho : Kd.R kp 48 w1 w.heap.size (fun _ => True) v1 acc2) (hb : Below w.heap.size w w1) (hg : W.grownBy w1 s.ownBlock) : ReI w w1 N gb A B R G v1 acc2 :=
  ⟨h.mat.grown hg (Kd.R_ne h.row h.mat.near (by decide)) (Kd.R_ne h.row h.mat.left (by decide)) (fun i hi => Kd.R_ne h.row (h.mat.row i hi) (by decide)),
   (hg.block _ (blk_lt h.box) (Kd.R_ne h.row h.box (by decide))).trans h.box, ho, hb⟩
set_option maxHeartbeats 4000000 in
set_option maxRecDepth 100000 in
theorem redges_calls (n : Int) (A : Option Addr) (c : Nat) (l : List (List Int)) (w : World) (hr : Kd.C kl w A l.length l) (hc : l.length ≤ c) :
    Calls Try.prog 22 #[.int .i64 n, .slice A l.length c] w fun e w' => ∃ v0, e = .returned (.tuple #[v0, .int .i64 (edgesF n l).2]) ∧ Kd.R kp 48 w' w.heap.size (fun _ => True) v0 (edgesF n l).1 ∧ Below w.heap.size w w' := by
  have HC := Aside0.mk (rright_calls n A c l w hr)
  have hu61 := Try.underlying61
  cases hR : rightF n l with
  | false =>
    have hE : edgesF n l = ([], 1) := by unfold edgesF; rw [hR]; rfl
    rw [hR] at HC
    rw [hE]
    clear hr hR hE
    go_enter Try.func22, Try.ntmps22
    go_wp2_with fail
    refine HC.out.mono ?_
    rintro e w1 ⟨rfl, rfl⟩
    go_wp2
    go_ret2
    exact ⟨_, rfl, Kd.R_nil _ _ _ _ _, Below.refl _ _⟩
  | true =>
    have hT := rightF_true hR
    obtain ⟨N, rfl⟩ := Int.eq_ofNat_of_zero_le hT.1
    have hN : N ≤ 16 := by omega
    have hv : ∀ x ∈ l, ∀ v ∈ x, 0 ≤ v ∧ v < (N : Int) := fun x hx v hv => (hT.2.2.2 x hx).2 v hv
    have hE : edgesF (N : Int) l = (edA (ofG l) N 0, 0) := by unfold edgesF; rw [hR, Int.toNat_natCast]; rfl
    rw [hE]
    rw [hR] at HC
    have HO := Aside0.mk (rof_calls N A c l w hr hc hN hv)
    clear hr hR hv hT hE
    go_enter Try.func22, Try.ntmps22
    go_wp2_with fail
    refine HC.out.mono ?_
    rintro e w1 ⟨rfl, rfl⟩
    clear HC
    go_wp2_with fail
    refine HO.out.mono ?_
    rintro e w2 ⟨A1, B1, R, rfl, hM, hb⟩
    clear HO
    generalize hG : ofG l = G at *
    have HGe := Aside0.mk hG
    have HI0 : ReI w1 (w2.alloc (gbox N A1 B1)) N w2.heap.size A1 B1 R G (.slice none 0 0) [] := ⟨hM.alloc _, blk_new w2 _, Kd.R_nil _ _ _ _ _, hb.alloc hb.size _⟩
    have HL := Aside0.mk (edA_len' G N hN)
    clear hM hb hG
    go_wp2
    go_loopw [6, 8] (fun s6 s8 wr => ∃ k : Nat, ∃ acc : List (Int × Int), k ≤ N ∧ s8 = .int .i64 (k : Int) ∧ Aside0 (acc ++ edA G N k = edA G N 0) ∧ ReI w1 wr N w2.heap.size A1 B1 R G s6 acc) (fun _ s8 _ => (N - (intOf s8).toNat))
    case atStart => exact ⟨0, [], by omega, rfl, ⟨rfl⟩, HI0⟩
    case round =>
      clear HI0
      obtain ⟨k, acc, hk, rfl, HA, HI⟩ := hrel
      by_cases hlt : k < N
      · have hkd : decide (k < N) = true := decide_eq_true hlt
        have hT : Aside0 (acc ++ (edB G N k (k + 1) ++ edA G N (k + 1)) = edA G N 0) := ⟨by rw [← HA.out, edA_step G N k hlt]⟩
        clear HA
        go_wp2
        go_loopw [6, 9] (fun s6 s9 wr => ∃ b : Nat, ∃ acc : List (Int × Int), b ≤ 17 ∧ s9 = .int .i64 (b : Int) ∧ Aside0 (acc ++ (edB G N k b ++ edA G N (k + 1)) = edA G N 0) ∧ ReI w1 wr N w2.heap.size A1 B1 R G s6 acc) (fun _ s9 _ => (17 - (intOf s9).toNat))
        case atStart => exact ⟨k + 1, acc, by omega, by go_num, hT, HI⟩
        case round =>
          clear hT HI
          obtain ⟨b, acc, hb, rfl, HA, HI⟩ := hrel
          by_cases hltb : b < N
          · have hbd : decide (b < N) = true := decide_eq_true hltb
            have hTs := edB_step G N k b hltb
            have hb0 := HI.boxC.1
            have hna := HI.mat.nearC k hlt
            have hrc := HI.mat.rowC k b hlt hltb
            cases htb : (G k).testBit b with
            | false =>
              rw [htb] at hrc
              have hT : Aside0 (acc ++ (edB G N k (b + 1) ++ edA G N (k + 1)) = edA G N 0) := ⟨by rw [← HA.out, hTs, htb]; simp⟩
              clear hTs HA
              go_wp2
              go_roundw
              case rel => exact ⟨b + 1, acc, by omega, by go_num, hT, HI⟩
              case measure => simp [intOf]; omega
            | true =>
              rw [htb] at hrc
              have hT : Aside0 ((acc ++ [pr k b]) ++ (edB G N k (b + 1) ++ edA G N (k + 1)) = edA G N 0) := ⟨by rw [← HA.out, hTs, htb]; simp⟩
              have hL : Aside0 (acc.length ≤ 256) := ⟨by
                have h1 := HL.out
                rw [← HA.out, List.length_append] at h1
                omega⟩
              clear hTs HA
              go_wp2_with (at_builtin; refine Kd.R_append kp (w0 := w1) w1.heap.size rfl (.tmp 37) (.tmp 41) 35 48 (.agg #[.int .i64 0, .int .i64 0]) 16 rfl Try.underlying35 info48 rfl (by decide) (by omega) _ acc (pr k b) [.int .i64 (k : Int), .int .i64 (b : Int)] (fun _ => True) (fun _ => False) rfl rfl ?aP (fun _ hk => hk.elim) ?aF ?aO ?aB ?aS ?aL ?_; (case aP => exact kp_mkM _ _ _ _ _); (case aF => exact (fun _ _ => trivial)); (case aO => exact HI.row); (case aB => exact HI.bel); (case aS => exact HI.bel.size); (case aL => have := hL.out; omega); intro v1 w4 ho hb1 hg1 hat1; have HI1 := ReI.push HI ho hb1 hg1; clear ho hb1 hg1 hat1 HI hb0 hna hrc)
              go_roundw
              case rel => exact ⟨b + 1, _, by omega, by go_num, hT, HI1⟩
              case measure => simp [intOf]; omega
          · have hbd : decide (b < N) = false := decide_eq_false hltb
            go_wp2
            go_roundw
            case rel => exact ⟨k + 1, acc, by omega, by go_num, ⟨by rw [← HA.out, edB_end G N k b (by omega), List.nil_append]⟩, HI⟩
            case measure => simp [intOf]; omega
      · obtain rfl : k = N := by omega
        go_wp2
        go_ret2
        refine ⟨_, rfl, ?_, HI.bel⟩
        have := HA.out
        rw [edA_end, List.append_nil] at this
        rw [HGe.out, ← this]
        exact HI.row
end Go.Proofs.Ytnnaakinchophaa.Ord
