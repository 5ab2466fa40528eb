/- The laws' own helpers of layer 27: few, samePairs, alive; walked; conditions as written. -/
import Derived.Test.YtnnaakinchophaaOrdM
import Derived.Test.YtnnaakinchophaaOrdI
import Derived.Test.YtnnaakinchophaaXA2
import Derived.ChangeKeysEq
import Derived.Test.YtnnaakinchophaaXA3
namespace Go.Proofs.Ytnnaakinchophaa.Ord
set_option linter.unusedVariables false
set_option linter.unusedSimpArgs false
open Go.RowKit Go.Proofs.YtnnaakinchophaaW.PrintWords Go.Proofs.YtnnaakinchophaaW.PrintLast Go.Proofs.YtnnaakinchophaaW.PrintMore
theorem eq48 (px py : Int) (w : World) : (Op.equalIn 10000 48 (.agg #[.int .i64 px, .int .i64 py]) (.agg #[.int .i64 px, .int .i64 py])).run Try.prog w = .ok true w := by
  obtain ⟨i, hi, _⟩ := Option.map_eq_some_iff.1 info3
  rw [run_equalIn_array w 9999 _ _ Try.underlying48 hi]
  have hc : Try.prog.cellsOf 3 = 1 := by kernel_rfl
  have hp : Try.prog.plainKey 3 = true := by kernel_rfl
  rw [hc, show List.range 2 = [0, 1] from rfl]
  have p0 : (part 3 #[.int .i64 px, .int .i64 py] (0 * 1)).run Try.prog w = .ok (.int .i64 px) w := run_part_plain w hp rfl
  have p1 : (part 3 #[.int .i64 px, .int .i64 py] (1 * 1)).run Try.prog w = .ok (.int .i64 py) w := run_part_plain w hp rfl
  have q0 : ∀ z : Int, (Op.equalIn 9999 3 (.int .i64 z) (.int .i64 z)).run Try.prog w = .ok true w := fun z => by
    have := run_equalIn_int (P := Try.prog) w 9998 3 .i64 .i64 z z Try.underlying3
    rwa [beq_self_eq_true] at this
  have hf : ((!true) = true) = False := by simp
  simp only [Op.eqItems, Sem.run_bind, p0, p1, q0, Result.andThen_ok, hf, if_false]
  rfl
theorem info25 : (Try.prog.info? 25).map (fun i => (i.zero, i.size, i.bytes)) = some (some (.slice none 0 0), 1, 24) := by kernel_rfl
def fewV (M v : Int) : Int := if M ≤ v ∧ v < 16 then v % M else v
def fewX (M : Int) (x : List Int) : List Int := (x.take 101).map (fewV M)
/-- The scopes as few leaves them. -/
def fewL (M : Int) (l : List (List Int)) : List (List Int) := (l.take 1001).map (fewX M)
def fewN (n M : Int) : Int := if M < n ∧ n ≤ 16 then M else n
structure FewI (w wr : World) (s : Value) (acc : List (List Int)) : Prop where
  row : Kd.R kl 25 wr w.heap.size (fun _ => True) s acc
  bel : Below w.heap.size w wr
structure FewJ (w wr : World) (s t : Value) (acc : List (List Int)) (x : List Int) : Prop where
  row : Kd.R kl 25 wr w.heap.size (fun k => True ∧ some k ≠ t.ownBlock) s acc
  one : Kd.R (Kd.int .i64) 3 wr w.heap.size (fun _ => True) t x
  bel : Below w.heap.size w wr
theorem FewI.open_ {w wr : World} {s : Value} {acc : List (List Int)} (h : FewI w wr s acc) : FewJ w wr s (.slice none 0 0) acc [] := ⟨Kd.R_apart_nil h.row, Kd.R_nil _ _ _ _ _, h.bel⟩
theorem FewJ.push {w W w1 : World} {s t t1 : Value} {acc : List (List Int)} {x x1 : List Int} (h : FewJ w W s t acc x) (ho : Kd.R (Kd.int .i64) 3 w1 w.heap.size (fun _ => True) t1 x1) (hb : Below w.heap.size w w1) (hg : W.grownBy w1 t.ownBlock) (hat : t1.ownBlock = t.ownBlock ∨ ∃ b, t1.ownBlock = some b ∧ W.heap.size ≤ b) : FewJ w w1 s t1 acc x1 :=
  ⟨Kd.R_after h.row hg hat, ho, hb⟩
theorem FewJ.part {w W : World} {s t : Value} {acc : List (List Int)} {x : List Int} (h : FewJ w W s t acc x) : kl.M W w.heap.size (fun k => some k = t.ownBlock ∧ True) x [t] ∧ ∀ k, (some k = t.ownBlock ∧ True) → True ∧ some k ≠ s.ownBlock := by
  refine ⟨⟨t, rfl, Kd.R_tight2 rfl h.one⟩, fun k hk => ⟨trivial, fun e => ?_⟩⟩
  obtain ⟨inner, ho⟩ := Kd.R_own h.row
  obtain ⟨cells, hc⟩ := own_typed ho k e.symm
  exact Kd.R_ne h.one hc (by decide) hk.1
set_option maxHeartbeats 4000000 in
set_option maxRecDepth 100000 in
theorem few_calls (n : Int) (A : Option Addr) (c : Nat) (l : List (List Int)) (M : Nat) (w : World) (hM1 : 1 ≤ M) (hM : M ≤ 16) (hr : Kd.C kl w A l.length l) (hc : l.length ≤ c) :
    Calls Try.prog 14 #[.int .i64 n, .slice A l.length c, .int .i64 (M : Int)] w fun e w' => ∃ v1, e = .returned (.tuple #[.int .i64 (fewN n M), v1]) ∧ Kd.R kl 25 w' w.heap.size (fun _ => True) v1 (fewL M l) ∧ Below w.heap.size w w' := by
  have hmax := Kd.C_max hr
  obtain ⟨m, hm⟩ : ∃ m : Nat, min l.length 1001 = m := ⟨_, rfl⟩
  have hml : m ≤ l.length := by omega
  have hm2 : m ≤ 1001 := by omega
  have hmn : mn (l.length : Int) 1001 = (m : Int) := by unfold mn; split <;> omega
  have hmn0 : (if 1001 < (l.length : Int) then (1001 : Int) else (l.length : Int)) = (m : Int) := hmn
  obtain ⟨i0, hi0, _⟩ := Option.map_eq_some_iff.1 info25
  obtain ⟨i3, hi3, _⟩ := Option.map_eq_some_iff.1 info3
  have hcutA := cut_to (P := Try.prog) 22 25 .i64 Try.underlying22 hi0 A l.length c (m : Int) (by omega) (by omega) hc
  rw [Int.toNat_natCast] at hcutA
  have HR := Aside0.mk (Kd.C_take (m := m) hr hml)
  have hlm : (l.take m).length = m := by rw [List.length_take]; omega
  have hfl : fewL M l = (l.take m).map (fewX M) := by
    unfold fewL
    congr 1
    rcases Nat.lt_or_ge l.length 1001 with h | h
    · rw [List.take_of_length_le (by omega), List.take_of_length_le (by omega)]
    · rw [show m = 1001 by omega]
  rw [hfl]
  generalize l.take m = ls at *
  rw [hlm] at HR
  clear hr hfl
  go_enter Try.func14, Try.ntmps14
  go_upto_region 1 with fail
  go_cut [20] (fun s20 wx => s20 = .bool (decide ((M : Int) < n ∧ n ≤ 16)) ∧ wx = w)
  case first =>
    by_cases h1 : (M : Int) < n
    · have h1b : decide ((M : Int) < n) = true := decide_eq_true h1
      by_cases h2 : n ≤ 16
      · have h2b : decide (n ≤ 16) = true := decide_eq_true h2
        go_wp2
        go_meet
        exact ⟨congrArg Value.bool (decide_eq_true ⟨h1, h2⟩).symm, rfl⟩
      · have h2b : decide (n ≤ 16) = false := decide_eq_false h2
        go_wp2
        go_meet
        exact ⟨congrArg Value.bool (decide_eq_false (by omega)).symm, rfl⟩
    · have h1b : decide ((M : Int) < n) = false := decide_eq_false h1
      go_wp2
      go_meet
      exact ⟨congrArg Value.bool (decide_eq_false (by omega)).symm, rfl⟩
  case rest =>
    obtain ⟨rfl, hwc⟩ := hcut
    have hwc2 := hwc.symm
    subst hwc2
    clear hwc
    go_upto_if 20 with fail
    go_cut [0] (fun s0 wx => s0 = .int .i64 (fewN n M) ∧ wx = w)
    case first =>
      have hF : Aside0 (fewN n M = if decide ((M : Int) < n ∧ n ≤ 16) = true then (M : Int) else n) := ⟨by unfold fewN; simp only [decide_eq_true_eq]⟩
      generalize decide ((M : Int) < n ∧ n ≤ 16) = b at *
      cases b with
      | true =>
        go_wp2
        go_meet
        exact ⟨by rw [hF.out]; rfl, rfl⟩
      | false =>
        go_wp2
        go_meet
        exact ⟨by rw [hF.out]; rfl, rfl⟩
    case rest =>
      obtain ⟨rfl, hwc⟩ := hcut
      have hwc2 := hwc.symm
      subst hwc2
      clear hwc
      go_wp2
      go_loopw [8, 28] (fun s8 s28 wr => ∃ k : Nat, ∃ acc : List (List Int), k ≤ m ∧ s28 = .int .i64 (k : Int) ∧ Aside0 (acc ++ (ls.drop k).map (fewX M) = ls.map (fewX M)) ∧ Aside0 (acc.length = k) ∧ FewI w wr s8 acc) (fun _ s28 _ => (m - (intOf s28).toNat))
      case atStart => exact ⟨0, [], by omega, rfl, ⟨rfl⟩, ⟨rfl⟩, ⟨Kd.R_nil _ _ _ _ _, Below.refl _ _⟩⟩
      case round =>
        obtain ⟨k, acc, hk, rfl, HA, HAL, HI⟩ := hrel
        by_cases hlt : k < m
        · have hkd : decide (k < m) = true := decide_eq_true hlt
          obtain ⟨ad, A0, c0, rfl, hx0, hc0, hC0⟩ := kl_at HR.out k hlt
          have hx := pw_cell_below HI.bel hx0
          clear hx0
          have hx0 := Aside0.mk (drop_getD [] ls k (by omega))
          generalize ls.getD k [] = x at *
          have hC0m := Kd.C_max hC0
          obtain ⟨p, hp⟩ : ∃ p : Nat, min x.length 101 = p := ⟨_, rfl⟩
          have hpl : p ≤ x.length := by omega
          have hp2 : p ≤ 101 := by omega
          have hpn : mn (x.length : Int) 101 = (p : Int) := by unfold mn; split <;> omega
          have hpn0 : (if 101 < (x.length : Int) then (101 : Int) else (x.length : Int)) = (p : Int) := hpn
          have hcutB := cut_to (P := Try.prog) 25 3 .i64 Try.underlying25 hi3 A0 x.length c0 (p : Int) (by omega) (by omega) hc0
          rw [Int.toNat_natCast] at hcutB
          have HC0 := Aside0.mk (Kd.C_take (m := p) hC0 hpl)
          have hlp : (x.take p).length = p := by rw [List.length_take]; omega
          have hfx : fewX M x = (x.take p).map (fewV M) := by
            unfold fewX
            congr 1
            rcases Nat.lt_or_ge x.length 101 with h | h
            · rw [List.take_of_length_le (by omega), List.take_of_length_le (by omega)]
            · rw [show p = 101 by omega]
          have hT : Aside0 (acc ++ ((x.take p).map (fewV M) :: (ls.drop (k + 1)).map (fewX M)) = ls.map (fewX M)) := ⟨by rw [← HA.out, hx0.out, List.map_cons, hfx]⟩
          generalize x.take p = xs at *
          rw [hlp] at HC0
          clear hx0 hC0 hfx HA
          have HJ0 := HI.open_
          go_wp2
          go_loopw [11, 38] (fun s11 s38 wr => ∃ j : Nat, ∃ y : List Int, j ≤ p ∧ s38 = .int .i64 (j : Int) ∧ Aside0 (y ++ (xs.drop j).map (fewV M) = xs.map (fewV M)) ∧ Aside0 (y.length = j) ∧ FewJ w wr u8 s11 acc y) (fun _ s38 _ => (p - (intOf s38).toNat))
          case atStart => exact ⟨0, [], by omega, rfl, ⟨rfl⟩, ⟨rfl⟩, HJ0⟩
          case round =>
            clear HJ0 HI hx
            obtain ⟨j, y, hj, rfl, HA, HYL, HI⟩ := hrel
            by_cases hltj : j < p
            · have hkd2 : decide (j < p) = true := decide_eq_true hltj
              obtain ⟨ad2, rfl, hyw⟩ := kn_at HC0.out j hltj
              have hy := pw_cell_below HI.bel hyw
              clear hyw
              have hy0 := Aside0.mk (drop_getD 0 xs j (by omega))
              generalize xs.getD j 0 = v at *
              have hT2 : Aside0 ((y ++ [fewV M v]) ++ (xs.drop (j + 1)).map (fewV M) = xs.map (fewV M)) := ⟨by rw [← HA.out, hy0.out, List.map_cons, List.append_assoc]; rfl⟩
              have hYL : Aside0 ((y ++ [fewV M v]).length = j + 1) := ⟨by rw [List.length_append, HYL.out]; rfl⟩
              have hyl : Aside0 (y.length ≤ 101) := ⟨by have := HYL.out; omega⟩
              clear hy0 HA HYL
              by_cases hv1 : (M : Int) ≤ v
              · have hv1b : decide ((M : Int) ≤ v) = true := decide_eq_true hv1
                by_cases hv2 : v < 16
                · have hv2b : decide (v < 16) = true := decide_eq_true hv2
                  have hF : fewV M v = v % M := if_pos ⟨hv1, hv2⟩
                  rw [hF] at hT2 hYL
                  clear hF
                  go_wp2_with (at_builtin; refine Kd.R_append (Kd.int .i64) (w0 := w) w.heap.size rfl (.tmp 52) (.tmp 54) 25 3 (.int .i64 0) 8 rfl Try.underlying25 info3 rfl (by decide) (by omega) _ y (v % (M : Int)) [.int .i64 (v % (M : Int))] (fun _ => True) (fun _ => False) rfl rfl ?aP (fun _ hk => hk.elim) ?aF ?aO ?aB ?aS ?aL ?_; (case aP => exact rfl); (case aF => exact (fun _ _ => trivial)); (case aO => exact HI.one); (case aB => exact HI.bel); (case aS => exact HI.bel.size); (case aL => have := hyl.out; omega); intro v1 w4 ho hb1 hg1 hat1; have HI1 := HI.push ho hb1 hg1 hat1; clear ho hb1 hg1 hat1 HI hy)
                  go_roundw
                  case rel => exact ⟨j + 1, _, by omega, by go_num, hT2, hYL, HI1⟩
                  case measure => simp [intOf]; omega
                · have hv2b : decide (v < 16) = false := decide_eq_false hv2
                  have hF : fewV M v = v := if_neg (fun h => hv2 h.2)
                  rw [hF] at hT2 hYL
                  clear hF
                  go_wp2_with (at_builtin; refine Kd.R_append (Kd.int .i64) (w0 := w) w.heap.size rfl (.tmp 52) (.tmp 54) 25 3 (.int .i64 0) 8 rfl Try.underlying25 info3 rfl (by decide) (by omega) _ y (v) [.int .i64 (v)] (fun _ => True) (fun _ => False) rfl rfl ?aP (fun _ hk => hk.elim) ?aF ?aO ?aB ?aS ?aL ?_; (case aP => exact rfl); (case aF => exact (fun _ _ => trivial)); (case aO => exact HI.one); (case aB => exact HI.bel); (case aS => exact HI.bel.size); (case aL => have := hyl.out; omega); intro v1 w4 ho hb1 hg1 hat1; have HI1 := HI.push ho hb1 hg1 hat1; clear ho hb1 hg1 hat1 HI hy)
                  go_roundw
                  case rel => exact ⟨j + 1, _, by omega, by go_num, hT2, hYL, HI1⟩
                  case measure => simp [intOf]; omega
              · have hv1b : decide ((M : Int) ≤ v) = false := decide_eq_false hv1
                have hF : fewV M v = v := if_neg (fun h => hv1 h.1)
                rw [hF] at hT2 hYL
                clear hF
                go_wp2_with (at_builtin; refine Kd.R_append (Kd.int .i64) (w0 := w) w.heap.size rfl (.tmp 52) (.tmp 54) 25 3 (.int .i64 0) 8 rfl Try.underlying25 info3 rfl (by decide) (by omega) _ y (v) [.int .i64 (v)] (fun _ => True) (fun _ => False) rfl rfl ?aP (fun _ hk => hk.elim) ?aF ?aO ?aB ?aS ?aL ?_; (case aP => exact rfl); (case aF => exact (fun _ _ => trivial)); (case aO => exact HI.one); (case aB => exact HI.bel); (case aS => exact HI.bel.size); (case aL => have := hyl.out; omega); intro v1 w4 ho hb1 hg1 hat1; have HI1 := HI.push ho hb1 hg1 hat1; clear ho hb1 hg1 hat1 HI hy)
                go_roundw
                case rel => exact ⟨j + 1, _, by omega, by go_num, hT2, hYL, HI1⟩
                case measure => simp [intOf]; omega
            · obtain rfl : j = p := by omega
              have hB : xs.drop j = [] := by rw [← hlp, List.drop_length]
              have hY : Aside0 (y = xs.map (fewV M)) := ⟨by rw [← HA.out, hB]; simp⟩
              have hT2 : Aside0 ((acc ++ [y]) ++ (ls.drop (k + 1)).map (fewX M) = ls.map (fewX M)) := ⟨by rw [← hT.out, hY.out, List.append_assoc]; rfl⟩
              have hAL : Aside0 ((acc ++ [y]).length = k + 1) := ⟨by rw [List.length_append, HAL.out]; rfl⟩
              have hal : Aside0 (acc.length ≤ 1001) := ⟨by have := HAL.out; omega⟩
              obtain ⟨At, ct, rfl⟩ := Kd.R_slice HI.one
              have hP := HI.part
              clear hB hY HA
              go_wp2_with (at_builtin; refine Kd.R_append kl (w0 := w) w.heap.size rfl (.tmp 57) (.tmp 59) 22 25 (.slice none 0 0) 24 rfl Try.underlying22 info25 rfl (by decide) (by omega) _ acc y [.slice At y.length ct] (fun _ => True) _ rfl rfl hP.1 hP.2 ?aF ?aO ?aB ?aS ?aL ?_; (case aF => exact (fun _ _ => trivial)); (case aO => exact Kd.R_mono HI.row (fun _ _ => trivial)); (case aB => exact HI.bel); (case aS => exact HI.bel.size); (case aL => have := hal.out; omega); intro v1 w4 ho hb1 hg1 hat1; have HI1 : FewI w w4 v1 (acc ++ [y]) := ⟨ho, hb1⟩; clear ho hb1 hg1 hat1 HI hP)
              go_roundw
              case rel => exact ⟨k + 1, _, by omega, by go_num, hT2, hAL, HI1⟩
              case measure => simp [intOf]; omega
        · obtain rfl : k = m := by omega
          have hB : ls.drop k = [] := by rw [← hlm, List.drop_length]
          have hY : Aside0 (acc = ls.map (fewX M)) := ⟨by rw [← HA.out, hB]; simp⟩
          clear hB
          go_wp2
          go_ret2
          exact ⟨_, rfl, by rw [← hY.out]; exact HI.row, HI.bel⟩
theorem w64' {x : Int} (h0 : -1000 ≤ x) (h1 : x ≤ 1000) : wrap64 x = x := by unfold wrap64; omega
theorem same_l (l : List Int) (hl : l.length ≤ 100) : ∀ (d k i : Nat), i + d = l.length → d < k → XA.sortilegelaw27_same.l0 k l l (l.length : Int) (i : Int) = some true := by
  intro d
  induction d with
  | zero =>
    intro k i hi hk
    obtain ⟨k, rfl⟩ : ∃ m, k = m + 1 := ⟨k - 1, by omega⟩
    rw [XA.sortilegelaw27_same.l0, if_neg (by omega)]
  | succ d ih =>
    intro k i hi hk
    obtain ⟨k, rfl⟩ : ∃ m, k = m + 1 := ⟨k - 1, by omega⟩
    rw [XA.sortilegelaw27_same.l0, if_pos (by omega), if_pos (by omega), if_pos (by omega), if_pos (by omega), if_pos rfl, w64' (by omega) (by omega)]
    exact ih k (i + 1) (by omega) (by omega)
/-- Two equal slices are the same. -/
theorem same_calls (A0 : Option Addr) (c0 : Nat) (A1 : Option Addr) (c1 : Nat) (l : List Int) (w : World) (hr0 : Kd.C (Kd.int .i64) w A0 l.length l) (hc0 : l.length ≤ c0) (hr1 : Kd.C (Kd.int .i64) w A1 l.length l) (hc1 : l.length ≤ c1) (hl : l.length ≤ 100) :
    Calls Try.prog 17 #[.slice A0 l.length c0, .slice A1 l.length c1] w fun e w' => e = .returned (.bool true) ∧ Drawn0 w w' :=
  XA.sortilegelaw27_same.calls 200 A0 c0 l A1 c1 l true w hr0 hc0 hr1 hc1 (by
    unfold XA.sortilegelaw27_same.f
    rw [if_pos rfl]
    exact same_l l hl l.length 200 0 (by omega) (by omega))
/-- The program lives. -/
theorem alive_calls (w : World) : Calls Try.prog 18 #[] w fun e w' => e = .returned (.bool true) ∧ Below w.heap.size w w' :=
  XA.sortilegelaw27_alive.calls true w (by
    have h := best_okB 2 [[0, 1]] [0, 1] 1 (by decide) (by decide) (by decide +kernel)
    unfold XA.sortilegelaw27_alive.f XA.order_Best.f
    rw [show ((2 : Int)) = ((2 : Nat) : Int) from rfl, h]
    rfl)
set_option maxHeartbeats 4000000 in
set_option maxRecDepth 100000 in
/-- Two equal slices of pairs are the same. -/
theorem samePairs_calls (A0 : Option Addr) (c0 : Nat) (A1 : Option Addr) (c1 : Nat) (l : List (Int × Int)) (w : World) (hr0 : Kd.C kp w A0 l.length l) (hr1 : Kd.C kp w A1 l.length l) :
    Calls Try.prog 24 #[.slice A0 l.length c0, .slice A1 l.length c1] w fun e w' => e = .returned (.bool true) ∧ Drawn0 w w' := by
  have hmax := Kd.C_max hr0
  have H0 := Aside0.mk hr0
  have H1 := Aside0.mk hr1
  have hne : ((l.length : Int) != (l.length : Int)) = false := by simp
  clear hr0 hr1
  go_enter Try.func24, Try.ntmps24
  go_wp2
  go_loopw [13] (fun s13 wr => ∃ k m : Nat, k ≤ l.length ∧ s13 = .int .i64 (k : Int) ∧ wr = w.drewN m) (fun s13 _ => (l.length - (intOf s13).toNat))
  case atStart => exact ⟨0, 0, by omega, rfl, rfl⟩
  case round =>
    obtain ⟨k, m, hk, rfl, rfl⟩ := hrel
    by_cases hlt : k < l.length
    · obtain ⟨a0, rfl, hx0, hy0⟩ := kp_at H0.out k hlt
      obtain ⟨a1, rfl, hx1, hy1⟩ := kp_at H1.out k hlt
      generalize l.getD k (0, 0) = p at *
      obtain ⟨px, py⟩ := p
      have hqx := eq48 px py
      go_wp2
      go_region
      go_wp2
      go_roundw
      case rel => exact ⟨k + 1, m + 1, by omega, by go_num, rfl⟩
      case measure => simp [intOf]; omega
    · obtain rfl : k = l.length := by omega
      go_wp2
      go_ret
      exact ⟨rfl, ⟨⟨_, rfl⟩⟩⟩
end Go.Proofs.Ytnnaakinchophaa.Ord
