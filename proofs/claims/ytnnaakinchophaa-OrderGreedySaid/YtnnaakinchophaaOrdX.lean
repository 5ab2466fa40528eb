/- The law's own ordered, walked: a permutation; conditions as written. -/
import Derived.Test.YtnnaakinchophaaOrdV
import Derived.Deep.CutRange
import Derived.Deep.DeepCutAuto
import Derived.BigQuiet
namespace Go.Proofs.Ytnnaakinchophaa.Ord
set_option linter.unusedVariables false
set_option linter.unusedSimpArgs false
open Go.RowKit Go.Proofs.YtnnaakinchophaaW.PrintWords Go.Proofs.YtnnaakinchophaaW.PrintLast Go.Proofs.YtnnaakinchophaaW.PrintMore
theorem pigeon : ∀ (n : Nat) (acc : List Int), (∀ u : Nat, u < n → (u : Int) ∈ acc) → n ≤ acc.length
  | 0, _, _ => Nat.zero_le _
  | n + 1, acc, h => by
    have h1 := h n (by omega)
    have h2 := pigeon n (acc.erase (n : Int)) (fun u hu => (List.mem_erase_of_ne (by omega)).2 (h u (by omega)))
    rw [List.length_erase_of_mem h1] at h2
    have := List.length_pos_of_mem h1
    omega
structure OdI (w wr : World) (s : Value) (acc : List Int) : Prop where
  row : Kd.R (Kd.int .i64) 3 wr w.heap.size (fun _ => True) s acc
  bel : Below w.heap.size w wr
theorem OdI.bel_drew {w wr : World} {s : Value} {acc : List Int} (h : OdI w wr s acc) (m : Nat) : OdI w (wr.drewN m) s acc := ⟨Kd.R_drewN h.row m, pw_below_drewN h.bel m⟩
/-- What a permutation under way is. -/
structure OdP (n : Nat) (acc : List Int) : Prop where
  nd : acc.Nodup
  rg : ∀ x ∈ acc, 0 ≤ x ∧ x < (n : Int)
  len : acc.length ≤ n
set_option maxHeartbeats 4000000 in
set_option maxRecDepth 100000 in
theorem lordered_calls (A : Option Addr) (c : Nat) (given : List Int) (n : Nat) (w : World) (hn : n ≤ 16) (hr : Kd.C (Kd.int .i64) w A given.length given) :
    Calls Try.prog 25 #[.slice A given.length c, .int .i64 (n : Int)] w fun e w' => ∃ v0 xs, e = .returned v0 ∧ Kd.R (Kd.int .i64) 3 w' w.heap.size (fun _ => True) v0 xs ∧ Below w.heap.size w w' ∧ xs.length = n ∧ OdP n xs := by
  have hmax := Kd.C_max hr
  have HG := Aside0.mk hr
  have hr0 : OdI w (w.alloc (.cells #[] 3)) (.slice (some ⟨w.heap.size, 0, none⟩) 0 0) [] := ⟨Kd.R_of_own (by
    have h := own_lit w w.heap.size 3 .i64 [] (Nat.le_refl _) (by decide)
    exact h) (fun _ _ => trivial), (Below.refl _ _).alloc (Nat.le_refl _) _⟩
  clear hr
  go_enter Try.func25, Try.ntmps25
  go_wp2
  go_loopw [5] (fun s5 wr => ∃ acc : List Int, Aside0 (OdP n acc) ∧ OdI w wr s5 acc) (fun s5 _ => (n - (match s5 with | .slice _ l _ => l | _ => 0)))
  case atStart => exact ⟨[], ⟨⟨List.nodup_nil, fun x hx => absurd hx List.not_mem_nil, Nat.zero_le _⟩⟩, hr0⟩
  case round =>
    clear hr0
    obtain ⟨acc, HP, HI⟩ := hrel
    have hal : acc.length ≤ n := HP.out.len
    obtain ⟨A5, c5, rfl, hc5, hC5⟩ := Kd.R_reads HI.row
    clear hC5
    by_cases hlt : acc.length < n
    · have hltb : decide (acc.length < n) = true := decide_eq_true hlt
      go_wp2
      go_loopw [6, 7] (fun s6 s7 wr => ∃ v : Nat, ∃ best : Int, v ≤ n ∧ s7 = .int .i64 (v : Int) ∧ s6 = .int .i64 best ∧ Aside0 ((best = -1 ∧ ∀ u : Nat, u < v → (u : Int) ∈ acc) ∨ (0 ≤ best ∧ best < (n : Int) ∧ best ∉ acc)) ∧ OdI w wr (.slice A5 acc.length c5) acc) (fun _ s7 _ => (n - (intOf s7).toNat))
      case atStart => exact ⟨0, -1, by omega, rfl, rfl, ⟨Or.inl ⟨rfl, fun u hu => by omega⟩⟩, HI⟩
      case round =>
        clear HI
        obtain ⟨v, best, hv, rfl, rfl, HB, HI⟩ := hrel
        by_cases hltv : v < n
        · have hltvb : decide (v < n) = true := decide_eq_true hltv
          go_wp2
          go_loopw [8, 23] (fun s8 s23 wr => ∃ k : Nat, ∃ b : Bool, k ≤ acc.length ∧ s23 = .int .i64 (k : Int) ∧ s8 = .bool b ∧ Aside0 ((b || (acc.drop k).any (· == (v : Int))) = acc.any (· == (v : Int))) ∧ OdI w wr (.slice A5 acc.length c5) acc) (fun _ s23 _ => (acc.length - (intOf s23).toNat))
          case atStart => exact ⟨0, false, by omega, rfl, rfl, ⟨rfl⟩, HI⟩
          case round =>
            clear HI
            obtain ⟨k, b, hk, rfl, rfl, HA, HI⟩ := hrel
            by_cases hltk : k < acc.length
            · have hltkb : decide (k < acc.length) = true := decide_eq_true hltk
              obtain ⟨_, _, hC⟩ := Kd.R_reads' HI.row
              obtain ⟨ad, rfl, hx⟩ := kn_at hC k hltk
              have hd := Aside0.mk (drop_getD 0 acc k hltk)
              generalize acc.getD k 0 = x at *
              have hT : Aside0 ((b || (x == (v : Int)) || (acc.drop (k + 1)).any (· == (v : Int))) = acc.any (· == (v : Int))) := ⟨by rw [← HA.out, hd.out, List.any_cons, Bool.or_assoc]⟩
              clear hC hd HA
              cases b with
              | true =>
                go_wp2
                go_roundw
                case rel => exact ⟨k + 1, true, by omega, by go_num, rfl, ⟨by rw [← hT.out]; simp⟩, HI⟩
                case measure => simp [intOf]; omega
              | false =>
                go_wp2
                go_roundw
                case rel => exact ⟨k + 1, (x == (v : Int)), by omega, by go_num, rfl, ⟨by rw [← hT.out]; simp⟩, HI⟩
                case measure => simp [intOf]; omega
            · obtain rfl : k = acc.length := by omega
              have hused : Aside0 (b = acc.any (· == (v : Int))) := ⟨by rw [← HA.out, List.drop_length]; simp⟩
              clear HA
              go_upto_region 13 with fail
              go_cut [62] (fun s62 wx => ∃ t : Bool, s62 = .bool t ∧ Aside0 ((t = true → b = false) ∧ (b = false → best = -1 → t = true)) ∧ OdI w wx (.slice A5 acc.length c5) acc)
              case first =>
                cases b with
                | true =>
                  go_quiet (fail)
                  go_wp2
                  go_meet
                  exact ⟨_, rfl, ⟨by simp⟩, HI.bel_drew _⟩
                | false =>
                  by_cases hb0 : best < 0
                  · have hb0b : decide (best < 0) = true := decide_eq_true hb0
                    go_quiet (fail)
                    go_wp2
                    go_meet
                    exact ⟨_, rfl, ⟨by simp⟩, HI.bel_drew _⟩
                  · have hb0b : decide (best < 0) = false := decide_eq_false hb0
                    have hb1 : ¬ best = -1 := by omega
                    obtain ⟨bn, rfl⟩ := Int.eq_ofNat_of_zero_le (show 0 ≤ best by omega)
                    by_cases hvl : v < given.length
                    · have hvlb : decide (v < given.length) = true := decide_eq_true hvl
                      by_cases hbl : bn < given.length
                      · have hblb : decide (bn < given.length) = true := decide_eq_true hbl
                        obtain ⟨ag, rfl, hg1⟩ := kn_at HG.out v hvl
                        obtain ⟨ag2, hag, hg2⟩ := kn_at HG.out bn hbl
                        obtain rfl := Option.some.inj hag
                        have hg1 := pw_cell_below HI.bel hg1
                        have hg2 := pw_cell_below HI.bel hg2
                        go_quiet (fail)
                        go_wp2
                        go_meet
                        exact ⟨_, rfl, ⟨⟨fun _ => by first | trivial | rfl, by first | trivial | (intros; omega)⟩⟩, HI.bel_drew _⟩
                      · have hblb : decide (bn < given.length) = false := decide_eq_false hbl
                        go_quiet (fail)
                        go_wp2
                        go_meet
                        exact ⟨_, rfl, ⟨⟨fun _ => by first | trivial | rfl, by first | trivial | (intros; omega)⟩⟩, HI.bel_drew _⟩
                    · have hvlb : decide (v < given.length) = false := decide_eq_false hvl
                      go_quiet (fail)
                      go_wp2
                      go_meet
                      exact ⟨_, rfl, ⟨⟨fun _ => by first | trivial | rfl, by first | trivial | (intros; omega)⟩⟩, HI.bel_drew _⟩
              case rest =>
                obtain ⟨t, rfl, HT, HI2⟩ := hcut
                cases t with
                | true =>
                  go_wp2
                  go_roundw
                  case rel =>
                    refine ⟨v + 1, (v : Int), by omega, by go_num, rfl, ⟨Or.inr ⟨by omega, by omega, fun hm => ?_⟩⟩, HI2⟩
                    have h1 := HT.out.1 rfl
                    rw [hused.out, List.any_eq_false] at h1
                    exact h1 _ hm (by simp)
                  case measure => simp [intOf]; omega
                | false =>
                  go_wp2
                  go_roundw
                  case rel =>
                    refine ⟨v + 1, best, by omega, by go_num, rfl, ⟨?_⟩, HI2⟩
                    rcases HB.out with ⟨h1, h2⟩ | h1
                    · refine Or.inl ⟨h1, fun u hu => ?_⟩
                      by_cases e : u = v
                      · subst e
                        cases hb : b with
                        | false => exact absurd (HT.out.2 hb h1) (by simp)
                        | true =>
                          rw [hused.out, List.any_eq_true] at hb
                          obtain ⟨x, hx, hxe⟩ := hb
                          rw [beq_iff_eq] at hxe
                          rw [← hxe]; exact hx
                      · exact h2 u (by omega)
                    · exact Or.inr h1
                  case measure => simp [intOf]; omega
        · obtain rfl : v = n := by omega
          have hB : 0 ≤ best ∧ best < (v : Int) ∧ best ∉ acc := by
            rcases HB.out with ⟨h1, h2⟩ | h1
            · have := pigeon v acc h2
              omega
            · exact h1
          have HP2 : Aside0 (OdP v (acc ++ [best])) := ⟨⟨by
            rw [List.nodup_append]
            exact ⟨HP.out.nd, by simp, fun a ha b hb e => by
              rw [List.mem_singleton] at hb
              subst hb; subst e; exact hB.2.2 ha⟩, fun x hx => by
            rcases List.mem_append.1 hx with h | h
            · exact HP.out.rg x h
            · rw [List.mem_singleton] at h; subst h; exact ⟨hB.1, hB.2.1⟩, by rw [List.length_append]; simp; omega⟩⟩
          clear HB hB
          go_wp2_with (at_builtin; refine Kd.R_append (Kd.int .i64) (w0 := w) w.heap.size rfl (.tmp 64) (.tmp 66) 25 3 (.int .i64 0) 8 rfl Try.underlying25 info3 rfl (by decide) (by omega) _ acc best [.int .i64 best] (fun _ => True) (fun _ => False) rfl rfl ?aP (fun _ hk => hk.elim) ?aF ?aO ?aB ?aS ?aL ?_; (case aP => exact rfl); (case aF => exact (fun _ _ => trivial)); (case aO => exact HI.row); (case aB => exact HI.bel); (case aS => exact HI.bel.size); (case aL => omega); intro v1 w4 ho hb1 hg1 hat1; have HI1 : OdI w w4 v1 (acc ++ [best]) := ⟨ho, hb1⟩; clear ho hb1 hg1 hat1 HI)
          obtain ⟨A1, c1, rfl⟩ := Kd.R_slice HI1.row
          go_roundw
          case rel => exact ⟨_, HP2, HI1⟩
          case measure => simp; omega
    · have hltb : decide (acc.length < n) = false := decide_eq_false hlt
      go_wp2
      go_ret
      exact ⟨_, acc, rfl, HI.row, HI.bel, by omega, HP.out⟩
end Go.Proofs.Ytnnaakinchophaa.Ord
