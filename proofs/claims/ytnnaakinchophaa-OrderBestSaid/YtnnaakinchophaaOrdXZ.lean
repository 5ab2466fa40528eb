/- The law's own ordered, walked: a permutation; conditions as written. -/
import Derived.Test.YtnnaakinchophaaOrdV
import Derived.Deep.CutRange
import Derived.Deep.DeepCutAuto
import Derived.BigQuiet
namespace Go.Proofs.Ytnnaakinchophaa.Ord
section
set_option linter.unusedVariables false
set_option linter.unusedSimpArgs false
open Go.RowKit Go.Proofs.YtnnaakinchophaaW.PrintWords Go.Proofs.YtnnaakinchophaaW.PrintLast Go.Proofs.YtnnaakinchophaaW.PrintMore
theorem pigeon : ∀ (n : Nat) (acc : List Int), (∀ u : Nat, u < n → (u : Int) ∈ acc) → n ≤ acc.length
  | 0, _, _ => Nat.zero_le _
  | n + 1, acc, h => by
    have h1 := h n (by omega)
    have h2 := pigeon n (acc.erase (n : Int)) (fun u hu => (List.mem_erase_of_ne (by omega)).2 (h u (by omega)))
    rw [List.length_erase_of_mem h1] at h2
    have := List.length_pos_of_mem h1
    omega
structure OdI (w wr : World) (s : Value) (acc : List Int) : Prop where
  row : Kd.R (Kd.int .i64) 3 wr w.heap.size (fun _ => True) s acc
  bel : Below w.heap.size w wr
theorem OdI.bel_drew {w wr : World} {s : Value} {acc : List Int} (h : OdI w wr s acc) (m : Nat) : OdI w (wr.drewN m) s acc := ⟨Kd.R_drewN h.row m, pw_below_drewN h.bel m⟩
/-- What a permutation under way is. -/
structure OdP (n : Nat) (acc : List Int) : Prop where
  nd : acc.Nodup
  rg : ∀ x ∈ acc, 0 ≤ x ∧ x < (n : Int)
  len : acc.length ≤ n
set_option maxHeartbeats 4000000 in
set_option maxRecDepth 100000 in
theorem lordered_calls (A : Option Addr) (c : Nat) (given : List Int) (n : Nat) (w : World) (hn : n ≤ 16) (hr : Kd.C (Kd.int .i64) w A given.length given) :
    Calls Try.prog 25 #[.slice A given.length c, .int .i64 (n : Int)] w fun e w' => ∃ v0 xs, e = .returned v0 ∧ Kd.R (Kd.int .i64) 3 w' w.heap.size (fun _ => True) v0 xs ∧ Below w.heap.size w w' ∧ xs.length = n ∧ OdP n xs := by
  have hmax := Kd.C_max hr
  have HG := Aside0.mk hr
  have hr0 : OdI w (w.alloc (.cells #[] 3)) (.slice (some ⟨w.heap.size, 0, none⟩) 0 0) [] := ⟨Kd.R_of_own (by
    have h := own_lit w w.heap.size 3 .i64 [] (Nat.le_refl _) (by decide)
    exact h) (fun _ _ => trivial), (Below.refl _ _).alloc (Nat.le_refl _) _⟩
  clear hr
  go_enter Try.func25, Try.ntmps25
  go_wp2
  go_loopw [5] (fun s5 wr => ∃ acc : List Int, Aside0 (OdP n acc) ∧ OdI w wr s5 acc) (fun s5 _ => (n - (match s5 with | .slice _ l _ => l | _ => 0)))
  case atStart => exact ⟨[], ⟨⟨List.nodup_nil, fun x hx => absurd hx List.not_mem_nil, Nat.zero_le _⟩⟩, hr0⟩
  case round =>
    clear hr0
    obtain ⟨acc, HP, HI⟩ := hrel
    have hal : acc.length ≤ n := HP.out.len
    obtain ⟨A5, c5, rfl, hc5, hC5⟩ := Kd.R_reads HI.row
    clear hC5
    by_cases hlt : acc.length < n
    · have hltb : decide (acc.length < n) = true := decide_eq_true hlt
      go_wp2
      go_loopw [6, 7] (fun s6 s7 wr => ∃ v : Nat, ∃ best : Int, v ≤ n ∧ s7 = .int .i64 (v : Int) ∧ s6 = .int .i64 best ∧ Aside0 ((best = -1 ∧ ∀ u : Nat, u < v → (u : Int) ∈ acc) ∨ (0 ≤ best ∧ best < (n : Int) ∧ best ∉ acc)) ∧ OdI w wr (.slice A5 acc.length c5) acc) (fun _ s7 _ => (n - (intOf s7).toNat))
      case atStart => exact ⟨0, -1, by omega, rfl, rfl, ⟨Or.inl ⟨rfl, fun u hu => by omega⟩⟩, HI⟩
      case round =>
        clear HI
        obtain ⟨v, best, hv, rfl, rfl, HB, HI⟩ := hrel
        by_cases hltv : v < n
        · have hltvb : decide (v < n) = true := decide_eq_true hltv
          go_wp2
          go_loopw [8, 23] (fun s8 s23 wr => ∃ k : Nat, ∃ b : Bool, k ≤ acc.length ∧ s23 = .int .i64 (k : Int) ∧ s8 = .bool b ∧ Aside0 ((b || (acc.drop k).any (· == (v : Int))) = acc.any (· == (v : Int))) ∧ OdI w wr (.slice A5 acc.length c5) acc) (fun _ s23 _ => (acc.length - (intOf s23).toNat))
          case atStart => exact ⟨0, false, by omega, rfl, rfl, ⟨rfl⟩, HI⟩
          case round =>
            clear HI
            obtain ⟨k, b, hk, rfl, rfl, HA, HI⟩ := hrel
            by_cases hltk : k < acc.length
            · have hltkb : decide (k < acc.length) = true := decide_eq_true hltk
              obtain ⟨_, _, hC⟩ := Kd.R_reads' HI.row
              obtain ⟨ad, rfl, hx⟩ := kn_at hC k hltk
              have hd := Aside0.mk (drop_getD 0 acc k hltk)
              generalize acc.getD k 0 = x at *
              have hT : Aside0 ((b || (x == (v : Int)) || (acc.drop (k + 1)).any (· == (v : Int))) = acc.any (· == (v : Int))) := ⟨by rw [← HA.out, hd.out, List.any_cons, Bool.or_assoc]⟩
              clear hC hd HA
              cases b with
              | true =>
                go_wp2
                go_roundw
                case rel => exact ⟨k + 1, true, by omega, by go_num, rfl, ⟨by rw [← hT.out]; simp⟩, HI⟩
                case measure => simp [intOf]; omega
              | false =>
                go_wp2
                go_roundw
                case rel => exact ⟨k + 1, (x == (v : Int)), by omega, by go_num, rfl, ⟨by rw [← hT.out]; simp⟩, HI⟩
                case measure => simp [intOf]; omega
            · obtain rfl : k = acc.length := by omega
              have hused : Aside0 (b = acc.any (· == (v : Int))) := ⟨by rw [← HA.out, List.drop_length]; simp⟩
              clear HA
              go_upto_region 13 with fail
              go_cut [62] (fun s62 wx => ∃ t : Bool, s62 = .bool t ∧ Aside0 ((t = true → b = false) ∧ (b = false → best = -1 → t = true)) ∧ OdI w wx (.slice A5 acc.length c5) acc)
              case first =>
                cases b with
                | true =>
                  go_quiet (fail)
                  go_wp2
                  go_meet
                  exact ⟨_, rfl, ⟨by simp⟩, HI.bel_drew _⟩
                | false =>
                  by_cases hb0 : best < 0
                  · have hb0b : decide (best < 0) = true := decide_eq_true hb0
                    go_quiet (fail)
                    go_wp2
                    go_meet
                    exact ⟨_, rfl, ⟨by simp⟩, HI.bel_drew _⟩
                  · have hb0b : decide (best < 0) = false := decide_eq_false hb0
                    have hb1 : ¬ best = -1 := by omega
                    obtain ⟨bn, rfl⟩ := Int.eq_ofNat_of_zero_le (show 0 ≤ best by omega)
                    by_cases hvl : v < given.length
                    · have hvlb : decide (v < given.length) = true := decide_eq_true hvl
                      by_cases hbl : bn < given.length
                      · have hblb : decide (bn < given.length) = true := decide_eq_true hbl
                        obtain ⟨ag, rfl, hg1⟩ := kn_at HG.out v hvl
                        obtain ⟨ag2, hag, hg2⟩ := kn_at HG.out bn hbl
                        obtain rfl := Option.some.inj hag
                        have hg1 := pw_cell_below HI.bel hg1
                        have hg2 := pw_cell_below HI.bel hg2
                        go_quiet (fail)
                        go_wp2
                        go_meet
                        exact ⟨_, rfl, ⟨⟨fun _ => by first | trivial | rfl, by first | trivial | (intros; omega)⟩⟩, HI.bel_drew _⟩
                      · have hblb : decide (bn < given.length) = false := decide_eq_false hbl
                        go_quiet (fail)
                        go_wp2
                        go_meet
                        exact ⟨_, rfl, ⟨⟨fun _ => by first | trivial | rfl, by first | trivial | (intros; omega)⟩⟩, HI.bel_drew _⟩
                    · have hvlb : decide (v < given.length) = false := decide_eq_false hvl
                      go_quiet (fail)
                      go_wp2
                      go_meet
                      exact ⟨_, rfl, ⟨⟨fun _ => by first | trivial | rfl, by first | trivial | (intros; omega)⟩⟩, HI.bel_drew _⟩
              case rest =>
                obtain ⟨t, rfl, HT, HI2⟩ := hcut
                cases t with
                | true =>
                  go_wp2
                  go_roundw
                  case rel =>
                    refine ⟨v + 1, (v : Int), by omega, by go_num, rfl, ⟨Or.inr ⟨by omega, by omega, fun hm => ?_⟩⟩, HI2⟩
                    have h1 := HT.out.1 rfl
                    rw [hused.out, List.any_eq_false] at h1
                    exact h1 _ hm (by simp)
                  case measure => simp [intOf]; omega
                | false =>
                  go_wp2
                  go_roundw
                  case rel =>
                    refine ⟨v + 1, best, by omega, by go_num, rfl, ⟨?_⟩, HI2⟩
                    rcases HB.out with ⟨h1, h2⟩ | h1
                    · refine Or.inl ⟨h1, fun u hu => ?_⟩
                      by_cases e : u = v
                      · subst e
                        cases hb : b with
                        | false => exact absurd (HT.out.2 hb h1) (by simp)
                        | true =>
                          rw [hused.out, List.any_eq_true] at hb
                          obtain ⟨x, hx, hxe⟩ := hb
                          rw [beq_iff_eq] at hxe
                          rw [← hxe]; exact hx
                      · exact h2 u (by omega)
                    · exact Or.inr h1
                  case measure => simp [intOf]; omega
        · obtain rfl : v = n := by omega
          have hB : 0 ≤ best ∧ best < (v : Int) ∧ best ∉ acc := by
            rcases HB.out with ⟨h1, h2⟩ | h1
            · have := pigeon v acc h2
              omega
            · exact h1
          have HP2 : Aside0 (OdP v (acc ++ [best])) := ⟨⟨by
            rw [List.nodup_append]
            exact ⟨HP.out.nd, by simp, fun a ha b hb e => by
              rw [List.mem_singleton] at hb
              subst hb; subst e; exact hB.2.2 ha⟩, fun x hx => by
            rcases List.mem_append.1 hx with h | h
            · exact HP.out.rg x h
            · rw [List.mem_singleton] at h; subst h; exact ⟨hB.1, hB.2.1⟩, by rw [List.length_append]; simp; omega⟩⟩
          clear HB hB
          go_wp2_with (at_builtin; refine Kd.R_append (Kd.int .i64) (w0 := w) w.heap.size rfl (.tmp 64) (.tmp 66) 25 3 (.int .i64 0) 8 rfl Try.underlying25 info3 rfl (by decide) (by omega) _ acc best [.int .i64 best] (fun _ => True) (fun _ => False) rfl rfl ?aP (fun _ hk => hk.elim) ?aF ?aO ?aB ?aS ?aL ?_; (case aP => exact rfl); (case aF => exact (fun _ _ => trivial)); (case aO => exact HI.row); (case aB => exact HI.bel); (case aS => exact HI.bel.size); (case aL => omega); intro v1 w4 ho hb1 hg1 hat1; have HI1 : OdI w w4 v1 (acc ++ [best]) := ⟨ho, hb1⟩; clear ho hb1 hg1 hat1 HI)
          obtain ⟨A1, c1, rfl⟩ := Kd.R_slice HI1.row
          go_roundw
          case rel => exact ⟨_, HP2, HI1⟩
          case measure => simp; omega
    · have hltb : decide (acc.length < n) = false := decide_eq_false hlt
      go_wp2
      go_ret
      exact ⟨_, acc, rfl, HI.row, HI.bel, by omega, HP.out⟩
end
section
set_option linter.unusedVariables false
set_option linter.unusedSimpArgs false
open Go.RowKit Go.Proofs.YtnnaakinchophaaW.PrintWords Go.Proofs.YtnnaakinchophaaW.PrintLast Go.Proofs.YtnnaakinchophaaW.PrintMore
set_option maxHeartbeats 1000000 in
theorem index_calls (A : Option Addr) (c : Nat) (xs : List Int) (x : Int) (w : World) (hr : Kd.C (Kd.int .i64) w A xs.length xs) :
    Calls Try.prog 71 #[.slice A xs.length c, .int .i64 x] w fun e w' => e = .returned (.int .i64 (idxF (fun y => x == y) xs)) ∧ w' = w := by
  have hmax := Kd.C_max hr
  have HR := Aside0.mk hr
  clear hr
  go_enter Try.func71, Try.ntmps71
  go_wp2
  go_loopw [8] (fun s8 wr => ∃ k : Nat, k ≤ xs.length ∧ s8 = .int .i64 (k : Int) ∧ Aside0 (∀ j, j < k → (x == xs.getD j 0) = false) ∧ wr = w) (fun s8 _ => (xs.length - (intOf s8).toNat))
  case atStart => exact ⟨0, by omega, rfl, ⟨fun j hj => absurd hj (by omega)⟩, rfl⟩
  case round =>
    obtain ⟨k, hk, rfl, HA, rfl⟩ := hrel
    by_cases hlt : k < xs.length
    · obtain ⟨ad, rfl, hx⟩ := kn_at HR.out k hlt
      obtain ⟨z, hz⟩ : ∃ z, xs.getD k 0 = z := ⟨_, rfl⟩
      rw [hz] at hx
      have HZ := Aside0.mk hz
      clear hz
      cases hq : (x == z) with
      | true =>
        have HI := Aside0.mk (idxF_at (fun y => x == y) 0 xs k hlt HA.out (by rw [HZ.out]; exact hq))
        go_wp2
        go_ret
        exact ⟨by rw [HI.out]; rfl, rfl⟩
      | false =>
        have HN : Aside0 (∀ j, j < k + 1 → (x == xs.getD j 0) = false) := ⟨fun j hj => by
          rcases Nat.lt_or_ge j k with h | h
          · exact HA.out j h
          · obtain rfl : j = k := by omega
            rw [HZ.out]; exact hq⟩
        go_wp2
        go_roundw
        case rel => exact ⟨k + 1, by omega, by go_num, HN, trivial⟩
        case measure => simp [intOf]; omega
    · obtain rfl : k = xs.length := by omega
      have HI := Aside0.mk (idxF_none (fun y => x == y) xs (fun y hy => by
        obtain ⟨j, hj, rfl⟩ := List.getElem_of_mem hy
        have := HA.out j hj
        rwa [List.getD_eq_getElem?_getD, List.getElem?_eq_getElem hj] at this))
      go_wp2
      go_ret
      exact ⟨by rw [HI.out]; rfl, rfl⟩
set_option maxHeartbeats 1000000 in
theorem contains_calls (A : Option Addr) (c : Nat) (xs : List Int) (x : Int) (w : World) (hr : Kd.C (Kd.int .i64) w A xs.length xs) :
    Calls Try.prog 69 #[.slice A xs.length c, .int .i64 x] w fun e w' => e = .returned (.bool (xs.any fun y => x == y)) ∧ w' = w := by
  have H := Aside0.mk (index_calls A c xs x w hr)
  have HG := Aside0.mk (idxF_ge (fun y => x == y) xs)
  generalize idxF (fun y => x == y) xs = ix at *
  clear hr
  go_enter Try.func69, Try.ntmps69
  go_wp2_with (go_at_call 71; refine H.out.mono ?_; rintro e w' ⟨rfl, rfl⟩)
  go_ret
  exact ⟨by rw [← HG.out]; rfl, rfl⟩
/-- What MinFill's cost says. -/
def cfF (H : Nat → Nat) (v : Nat) : Int := ((mis H v).length : Int)
def cfD (H : Nat → Nat) (v : Nat) : Int := (popc (H v) : Int)
set_option maxHeartbeats 400000 in
theorem minFill1_calls (g v : Nat) (H : Nat → Nat) (w : World) (hg : Arr w g H) (hv : v < 16) (hH : ∀ i, H i < 65536) :
    Calls Try.prog 57 #[.pointer (some ⟨g, 0, none⟩), .int .i64 (v : Int)] w fun e w' => e = .returned (.int .i64 (cfF H v)) ∧ Below w.heap.size w w' := by
  have H1 := Aside0.mk (missing_calls g v H w hg hv hH)
  unfold cfF
  go_enter Try.func57, Try.ntmps57
  go_wp2_with fail
  refine H1.out.mono ?_
  rintro e w1 ⟨v1, rfl, hR, hB⟩
  obtain ⟨A1, c1, rfl, hc1, hC1⟩ := Kd.R_reads hR
  have HB := Aside0.mk hB
  clear hR hB hC1 H1
  go_wp2
  go_ret
  exact ⟨rfl, HB.out⟩
theorem degree_calls' (g v : Nat) (H : Nat → Nat) (w : World) (hg : Arr w g H) (hv : v < 16) (hH : ∀ i, H i < 65536) :
    Calls Try.prog 55 #[.pointer (some ⟨g, 0, none⟩), .int .i64 (v : Int)] w fun e w' => e = .returned (.int .i64 (cfD H v)) ∧ Below w.heap.size w w' :=
  (degree_calls g v H w hg hv (hH v)).mono fun e w' ⟨he, hd⟩ => ⟨he, by obtain ⟨⟨m, rfl⟩⟩ := hd; exact pw_below_drewN (Below.refl _ _) m⟩
set_option maxHeartbeats 400000 in
theorem rcost_calls {w : World} {N base A B : Nat} {R G : Nat → Nat} {L : Nat} (hM : Mat w N base A B R G L) (hN : N ≤ 16) (v : Nat) (hv : v < N) (b : Bool) :
    Calls Try.prog 70 #[gval N A B, .int .i64 (v : Int), .bool b] w fun e w' => e = .returned (.int .i64 (if b then ((rfill G L N v).length : Int) else ((nb G L N v).length : Int))) ∧ Below w.heap.size w w' := by
  have hu61 := Try.underlying61
  have hB0 : (w.alloc (gbox N A B)).heap[w.heap.size]? = some (gbox N A B) := blk_new w _
  obtain ⟨hb0, hb1⟩ := boxC hB0
  have hM2 := hM.alloc (gbox N A B)
  have HW2 := Aside0.mk ((Below.refl w.heap.size w).alloc (Nat.le_refl _) (gbox N A B))
  have H1 := Aside0.mk (nb_calls hM2 hN v hv)
  have H2 := Aside0.mk (rfill_calls hM2 hN v hv)
  have hcall : gval N A B = .agg #[.slice (some ⟨A, 0, none⟩) N N, .slice (some ⟨B, 0, none⟩) N N] := rfl
  rw [hcall] at H1 H2 ⊢
  clear hM hM2 hB0
  cases b with
  | true =>
    go_enter Try.func70, Try.ntmps70
    go_wp2_with fail
    refine H2.out.mono ?_
    rintro e w1 ⟨v1, rfl, hR, hB⟩
    obtain ⟨A1, c1, rfl, hc1, hC1⟩ := Kd.R_reads hR
    have HB := Aside0.mk (below_step HW2.out hB)
    clear hR hB hC1 H1 H2 HW2
    go_wp2
    go_ret
    exact ⟨rfl, HB.out⟩
  | false =>
    go_enter Try.func70, Try.ntmps70
    go_wp2_with fail
    refine H1.out.mono ?_
    rintro e w1 ⟨v1, rfl, hR, hB⟩
    obtain ⟨A1, c1, rfl, hc1, hC1⟩ := Kd.R_reads hR
    have HB := Aside0.mk (below_step HW2.out hB)
    clear hR hB hC1 H1 H2 HW2
    go_wp2
    go_ret
    exact ⟨rfl, HB.out⟩
end
section
set_option linter.unusedVariables false
set_option linter.unusedSimpArgs false
open Go.RowKit Go.Proofs.YtnnaakinchophaaW.PrintWords Go.Proofs.YtnnaakinchophaaW.PrintLast Go.Proofs.YtnnaakinchophaaW.PrintMore
def grS (cf : (Nat → Nat) → Nat → Int) (H : Nat → Nat) (out : List Int) (s : Int × Int) (v : Nat) : Int × Int :=
  if out.any (fun y => (v : Int) == y) then s else if s.1 < 0 ∨ cf H v < s.2 then ((v : Int), cf H v) else s
def grI (cf : (Nat → Nat) → Nat → Int) (n : Nat) (H : Nat → Nat) (out : List Int) (v : Nat) (s : Int × Int) : Int × Int := (List.range' v (n - v)).foldl (grS cf H out) s
def grL (cf : (Nat → Nat) → Nat → Int) (n : Nat) : Nat → (Nat → Nat) → List Int → List Int
  | 0, _, out => out
  | m + 1, H, out => grL cf n m (elimF H (grI cf n H out 0 (-1, 0)).1.toNat) (out ++ [(grI cf n H out 0 (-1, 0)).1])
/-- What greedy says. -/
def greedyF (cf : (Nat → Nat) → Nat → Int) (n : Int) (l : List (List Int)) : List Int × Int := if rightF n l then (grL cf n.toNat n.toNat (ofG l) [], 0) else ([], 1)
theorem grI_end (cf : (Nat → Nat) → Nat → Int) (n : Nat) (H : Nat → Nat) (out : List Int) (s : Int × Int) : grI cf n H out n s = s := by simp [grI]
theorem grI_step (cf : (Nat → Nat) → Nat → Int) (n : Nat) (H : Nat → Nat) (out : List Int) (v : Nat) (s : Int × Int) (h : v < n) : grI cf n H out v s = grI cf n H out (v + 1) (grS cf H out s v) := by
  unfold grI
  rw [show n - v = (n - (v + 1)) + 1 by omega, List.range'_succ, List.foldl_cons]
structure GrI (w wr : World) (g : Nat) (H : Nat → Nat) (s : Value) (out : List Int) : Prop where
  arr : Arr wr g H
  row : Kd.R (Kd.int .i64) 3 wr w.heap.size (fun _ => True) s out
  bel : Below w.heap.size w wr
  base : w.heap.size ≤ g
  lt : ∀ i, H i < 65536
theorem GrI.below {w wr w1 : World} {g : Nat} {H : Nat → Nat} {s : Value} {out : List Int} (h : GrI w wr g H s out) (hb : Below wr.heap.size wr w1) : GrI w w1 g H s out :=
  ⟨h.arr.below hb, Kd.R_below h.row hb, below_step h.bel hb, h.base, h.lt⟩
theorem int_types53 : ∀ q, q ∈ 3 :: (Kd.int .i64).E → q ≠ 53 := by
  intro q hq
  have : q = 3 := by simpa [Kd.int, Kd.scalar] using hq
  omega
theorem GrI.elim_ {w wr w6 : World} {g v : Nat} {H : Nat → Nat} {s : Value} {out : List Int} (h : GrI w wr g H s out) (hA : Arr w6 g (elimF H v)) (hG : wr.grownBy w6 (some g)) : GrI w w6 g (elimF H v) s out :=
  ⟨hA, Kd.R_mono (Kd.R_grown (Kd.R_types h.row h.arr.out int_types53) hG (fun q hq he => hq.2 (Option.some.inj he))) (fun _ _ => trivial), h.bel.grown hG h.bel.size (fun k hk => by cases hk; exact h.base), h.base, elimF_lt h.lt v⟩
theorem GrI.push {w W w1 : World} {g : Nat} {H : Nat → Nat} {s v1 : Value} {out out2 : List Int} (h : GrI w W g H s out) (ho : Kd.R (Kd.int .i64) 3 w1 w.heap.size (fun _ => True) v1 out2) (hb : Below w.heap.size w w1) (hg : W.grownBy w1 s.ownBlock) : GrI w w1 g H v1 out2 :=
  ⟨⟨(hg.block _ (blk_lt h.arr.out) (Kd.R_ne h.row h.arr.out (by decide))).trans h.arr.out⟩, ho, hb, h.base, h.lt⟩
set_option maxHeartbeats 4000000 in
set_option maxRecDepth 100000 in
theorem greedy_calls (cf : (Nat → Nat) → Nat → Int) (fn : Nat) (eg : ∀ args w, (callFunc fn args).run Try.prog w = .ok (.enter fn args) w)
    (hcf : ∀ (g v : Nat) (H : Nat → Nat) (w : World), Arr w g H → v < 16 → (∀ i, H i < 65536) → Calls Try.prog fn #[.pointer (some ⟨g, 0, none⟩), .int .i64 (v : Int)] w fun e w' => e = .returned (.int .i64 (cf H v)) ∧ Below w.heap.size w w')
    (n : Int) (A : Option Addr) (c : Nat) (l : List (List Int)) (w : World) (hr : Kd.C kl w A l.length l) (hc : l.length ≤ c) :
    Calls Try.prog 54 #[.int .i64 n, .slice A l.length c, .func (.func fn) #[] #[]] w fun e w' => ∃ v0, e = .returned (.tuple #[v0, .int .i64 (greedyF cf n l).2]) ∧ Kd.R (Kd.int .i64) 3 w' w.heap.size (fun _ => True) v0 (greedyF cf n l).1 ∧ Below w.heap.size w w' := by
  have HC := Aside0.mk (right_calls n A c l w hr hc)
  have HCF := Aside0.mk hcf
  clear hcf
  cases hR : rightF n l with
  | false =>
    have hE : greedyF cf n l = ([], 1) := by unfold greedyF; rw [hR]; rfl
    rw [hR] at HC
    rw [hE]
    clear hr hR hE
    go_enter Try.func54, Try.ntmps54
    go_wp2_with fail
    refine HC.out.mono ?_
    rintro e w1 ⟨rfl, hb⟩
    have HB := Aside0.mk hb
    clear hb
    go_wp2
    go_ret2
    exact ⟨_, rfl, Kd.R_nil _ _ _ _ _, HB.out⟩
  | true =>
    have hT := rightF_true hR
    obtain ⟨N, rfl⟩ := Int.eq_ofNat_of_zero_le hT.1
    have hN : N ≤ 16 := by omega
    have hv : ∀ x ∈ l, ∀ v ∈ x, 0 ≤ v ∧ v < 16 := fun x hx v hv => by
      have := (hT.2.2.2 x hx).2 v hv
      omega
    rw [hR] at HC
    have HV := Aside0.mk hv
    have HR := Aside0.mk hr
    have hE : greedyF cf N l = (grL cf N N (ofG l) [], 0) := by unfold greedyF; rw [hR]; rfl
    rw [hE]
    clear hr hR hv hT hE
    go_enter Try.func54, Try.ntmps54
    go_wp2_with fail
    refine HC.out.mono ?_
    rintro e w1 ⟨rfl, hb⟩
    have HB := Aside0.mk hb
    have HR1 := Aside0.mk (Kd.C_below HR.out hb)
    clear hb HR HC
    go_wp2_with fail
    refine (of_calls A c l w1 HR1.out hc HV.out).mono ?_
    rintro e w3 ⟨rfl, hb⟩
    have HB2 := Aside0.mk (below_step HB.out hb)
    clear hb HB HR1
    have hlt := ofG_lt l HV.out
    generalize hG : ofG l = G at *
    have HGe := Aside0.mk hG
    clear hG
    have hA2 : Arr (w3.alloc (.cells (gcells fun _ => 0) 53)) w3.heap.size (fun _ => 0) := ⟨blk_new w3 _⟩
    go_wp2_with ((with_reducible refine gate_store (t := 53) (p := 8) (v := .tmp 19) rfl ?_); refine store_arr rfl (.tmp 8) (.tmp 19) rfl rfl w3.heap.size G (fun _ => 0) rfl rfl hA2 ?_; intro w4 hA3 hG3)
    have hb3 : Below w.heap.size w w4 := ((HB2.out.alloc HB2.out.size _)).grown hG3 (Nat.le_trans HB2.out.size (by simp)) (fun k hk => by cases hk; exact HB2.out.size)
    have HI0 : GrI w (w4.alloc (.cells #[] 3)) w3.heap.size G (.slice (some ⟨w4.heap.size, 0, none⟩) 0 0) [] := ⟨hA3.alloc _, Kd.R_of_own (by
      have h := own_lit w4 w.heap.size 3 .i64 [] hb3.size (by decide)
      exact h) (fun _ _ => trivial), hb3.alloc hb3.size _, HB2.out.size, hlt⟩
    clear hA2 hA3 hG3 hb3 hlt
    go_loopw [9, 22] (fun s9 s22 wr => ∃ k : Nat, ∃ H : Nat → Nat, ∃ out : List Int, k ≤ N ∧ s22 = .int .i64 (k : Int) ∧ Aside0 (grL cf N (N - k) H out = grL cf N N G []) ∧ Aside0 (OdP N out ∧ out.length = k) ∧ GrI w wr w3.heap.size H s9 out) (fun _ s22 _ => (N - (intOf s22).toNat))
    case atStart => exact ⟨0, G, [], by omega, rfl, ⟨rfl⟩, ⟨⟨List.nodup_nil, fun x hx => absurd hx List.not_mem_nil, Nat.zero_le _⟩, rfl⟩, HI0⟩
    case round =>
      clear HI0
      obtain ⟨k, H, out, hk, rfl, HE, HP, HI⟩ := hrel
      by_cases hlt : k < N
      · have hkd : decide (k < N) = true := decide_eq_true hlt
        have hst : Aside0 (grL cf N (N - (k + 1)) (elimF H (grI cf N H out 0 (-1, 0)).1.toNat) (out ++ [(grI cf N H out 0 (-1, 0)).1]) = grL cf N N G []) := ⟨by
          rw [← HE.out, show N - k = (N - (k + 1)) + 1 by omega]
          rfl⟩
        generalize hgr : grI cf N H out 0 (-1, 0) = fin at *
        have HGR := Aside0.mk hgr
        clear hgr HE
        obtain ⟨A9, c9, rfl, hc9, hC9⟩ := Kd.R_reads HI.row
        clear hC9
        go_wp2
        go_loopw [10, 11, 25] (fun s10 s11 s25 wr => ∃ v : Nat, ∃ best least : Int, v ≤ N ∧ s25 = .int .i64 (v : Int) ∧ s10 = .int .i64 best ∧ s11 = .int .i64 least ∧ Aside0 (grI cf N H out v (best, least) = fin) ∧ Aside0 ((best = -1 ∧ ∀ u : Nat, u < v → (u : Int) ∈ out) ∨ (0 ≤ best ∧ best < (N : Int) ∧ best ∉ out)) ∧ GrI w wr w3.heap.size H (.slice A9 out.length c9) out) (fun _ _ s25 _ => (N - (intOf s25).toNat))
        case atStart => exact ⟨0, -1, 0, by omega, rfl, rfl, rfl, HGR, ⟨Or.inl ⟨rfl, fun u hu => by omega⟩⟩, HI⟩
        case round =>
          clear HI
          obtain ⟨v, best, least, hv, rfl, rfl, rfl, HS, HB, HI⟩ := hrel
          by_cases hltv : v < N
          · have hvd : decide (v < N) = true := decide_eq_true hltv
            have hs := Aside0.mk (grI_step cf N H out v (best, least) hltv)
            obtain ⟨_, _, hC⟩ := Kd.R_reads' HI.row
            have HCo := Aside0.mk (contains_calls A9 c9 out (v : Int) wr hC)
            have hv16 : v < 16 := by omega
            clear hC
            cases hany : out.any (fun y => (v : Int) == y) with
            | true =>
              rw [hany] at HCo
              have hT : Aside0 (grI cf N H out (v + 1) (best, least) = fin) := ⟨by rw [← HS.out, hs.out]; unfold grS; rw [hany]; rfl⟩
              have HB2 : Aside0 ((best = -1 ∧ ∀ u : Nat, u < v + 1 → (u : Int) ∈ out) ∨ (0 ≤ best ∧ best < (N : Int) ∧ best ∉ out)) := ⟨by
                rcases HB.out with ⟨h1, h2⟩ | h1
                · refine Or.inl ⟨h1, fun u hu => ?_⟩
                  by_cases e : u = v
                  · subst e
                    rw [List.any_eq_true] at hany
                    obtain ⟨x, hx, hxe⟩ := hany
                    rw [beq_iff_eq] at hxe
                    rw [hxe]; exact hx
                  · exact h2 u (by omega)
                · exact Or.inr h1⟩
              clear hs HS HB hany
              go_wp2_with fail
              refine HCo.out.mono ?_
              rintro e w5 ⟨rfl, rfl⟩
              clear HCo
              go_wp2
              go_roundw
              case rel => exact ⟨v + 1, best, least, by omega, by go_num, rfl, rfl, hT, HB2, HI⟩
              case measure => simp [intOf]; omega
            | false =>
              rw [hany] at HCo
              have hnot : (v : Int) ∉ out := fun hm => by
                rw [List.any_eq_false] at hany
                exact hany _ hm (by simp)
              have HN := Aside0.mk hnot
              have hS2 : Aside0 (grI cf N H out (v + 1) (if best < 0 ∨ cf H v < least then ((v : Int), cf H v) else (best, least)) = fin) := ⟨by rw [← HS.out, hs.out]; unfold grS; rw [hany]; rfl⟩
              have HV1 := Aside0.mk (HCF.out w3.heap.size v H wr HI.arr hv16 HI.lt)
              generalize cf H v = cv at *
              clear hs HS hany hnot
              have HB3 : Aside0 (((v : Int) = -1 ∧ ∀ u : Nat, u < v + 1 → (u : Int) ∈ out) ∨ (0 ≤ (v : Int) ∧ (v : Int) < (N : Int) ∧ (v : Int) ∉ out)) := ⟨Or.inr ⟨by omega, by omega, HN.out⟩⟩
              by_cases hb0 : best < 0
              · have hb0d : decide (best < 0) = true := decide_eq_true hb0
                have hT : Aside0 (grI cf N H out (v + 1) ((v : Int), cv) = fin) := ⟨by have := hS2.out; rwa [if_pos (Or.inl hb0)] at this⟩
                clear hS2 HB
                go_wp2_with fail
                refine HCo.out.mono ?_
                rintro e w5 ⟨rfl, rfl⟩
                clear HCo
                go_wp2_with (go_at_fn fn; refine HV1.out.mono ?_; rintro e w6 ⟨rfl, hb6⟩; have HI6 := HI.below hb6; clear hb6 HI HV1)
                go_roundw
                case rel => exact ⟨v + 1, _, _, by omega, by go_num, rfl, rfl, hT, HB3, HI6⟩
                case measure => simp [intOf]; omega
              · have hb0d : decide (best < 0) = false := decide_eq_false hb0
                by_cases hcl : cv < least
                · have hcld : decide (cv < least) = true := decide_eq_true hcl
                  have hT : Aside0 (grI cf N H out (v + 1) ((v : Int), cv) = fin) := ⟨by have := hS2.out; rwa [if_pos (Or.inr hcl)] at this⟩
                  clear hS2 HB
                  go_wp2_with fail
                  refine HCo.out.mono ?_
                  rintro e w5 ⟨rfl, rfl⟩
                  clear HCo
                  go_wp2_with (go_at_fn fn; refine HV1.out.mono ?_; rintro e w6 ⟨rfl, hb6⟩; have HI6 := HI.below hb6; clear hb6 HI HV1)
                  go_roundw
                  case rel => exact ⟨v + 1, _, _, by omega, by go_num, rfl, rfl, hT, HB3, HI6⟩
                  case measure => simp [intOf]; omega
                · have hcld : decide (cv < least) = false := decide_eq_false hcl
                  have hT : Aside0 (grI cf N H out (v + 1) (best, least) = fin) := ⟨by have := hS2.out; rwa [if_neg (by omega)] at this⟩
                  have HB2 : Aside0 ((best = -1 ∧ ∀ u : Nat, u < v + 1 → (u : Int) ∈ out) ∨ (0 ≤ best ∧ best < (N : Int) ∧ best ∉ out)) := ⟨by
                    rcases HB.out with ⟨h1, h2⟩ | h1
                    · omega
                    · exact Or.inr h1⟩
                  clear hS2 HB HB3
                  go_wp2_with fail
                  refine HCo.out.mono ?_
                  rintro e w5 ⟨rfl, rfl⟩
                  clear HCo
                  go_wp2_with (go_at_fn fn; refine HV1.out.mono ?_; rintro e w6 ⟨rfl, hb6⟩; have HI6 := HI.below hb6; clear hb6 HI HV1)
                  go_roundw
                  case rel => exact ⟨v + 1, _, _, by omega, by go_num, rfl, rfl, hT, HB2, HI6⟩
                  case measure => simp [intOf]; omega
          · obtain rfl : v = N := by omega
            have hfin : fin = (best, least) := by rw [← HS.out, grI_end]
            have hB : 0 ≤ best ∧ best < (v : Int) ∧ best ∉ out := by
              rcases HB.out with ⟨h1, h2⟩ | h1
              · have := pigeon v out h2
                have := HP.out.2
                omega
              · exact h1
            have hst2 := hst.out
            rw [hfin] at hst2
            have HP2 : Aside0 (OdP v (out ++ [best]) ∧ (out ++ [best]).length = k + 1) := ⟨⟨⟨by
              rw [List.nodup_append]
              exact ⟨HP.out.1.nd, by simp, fun a ha b hb e => by
                rw [List.mem_singleton] at hb
                subst hb; subst e; exact hB.2.2 ha⟩, fun x hx => by
              rcases List.mem_append.1 hx with h | h
              · exact HP.out.1.rg x h
              · rw [List.mem_singleton] at h; subst h; exact ⟨hB.1, hB.2.1⟩, by rw [List.length_append]; have := HP.out.2; simp; omega⟩, by rw [List.length_append, HP.out.2]; rfl⟩⟩
            obtain ⟨bn, rfl⟩ := Int.eq_ofNat_of_zero_le hB.1
            have hbn : bn < 16 := by omega
            have hst3 : Aside0 (grL cf v (v - (k + 1)) (elimF H bn) (out ++ [(bn : Int)]) = grL cf v v G []) := ⟨hst2⟩
            have hol : out.length ≤ 16 := by have := HP.out.2; omega
            clear HS HB hst hst2 hfin hB HGR HP
            go_wp2_with (at_builtin; refine Kd.R_append (Kd.int .i64) (w0 := w) w.heap.size rfl (.tmp 44) (.tmp 46) 25 3 (.int .i64 0) 8 rfl Try.underlying25 info3 rfl (by decide) (by omega) _ out (bn : Int) [.int .i64 (bn : Int)] (fun _ => True) (fun _ => False) rfl rfl ?aP (fun _ hk => hk.elim) ?aF ?aO ?aB ?aS ?aL ?_; (case aP => exact rfl); (case aF => exact (fun _ _ => trivial)); (case aO => exact HI.row); (case aB => exact HI.bel); (case aS => exact HI.bel.size); (case aL => omega); intro v1 w7 ho hb1 hg1 hat1; have HI1 := HI.push ho hb1 hg1; clear ho hb1 hg1 hat1 HI)
            refine (eliminate_calls w3.heap.size bn H w7 HI1.arr hbn HI1.lt).mono ?_
            rintro e w8 ⟨v8, rfl, -, hA8, hG8⟩
            have HI8 := HI1.elim_ hA8 hG8
            clear HI1 hA8 hG8
            go_wp2
            go_roundw
            case rel => exact ⟨k + 1, _, _, by omega, by go_num, hst3, HP2, HI8⟩
            case measure => simp [intOf]; omega
      · obtain rfl : k = N := by omega
        have hend : Aside0 (out = grL cf k k G []) := ⟨by rw [← HE.out, Nat.sub_self]; rfl⟩
        go_wp2
        go_ret2
        exact ⟨_, rfl, by rw [HGe.out, ← hend.out]; exact HI.row, HI.bel⟩
theorem eg55 : ∀ args w, (callFunc 55 args).run Try.prog w = .ok (.enter 55 args) w := enters_of Try.func55 (by kernel_rfl) rfl
theorem eg57 : ∀ args w, (callFunc 57 args).run Try.prog w = .ok (.enter 57 args) w := enters_of Try.func57 (by kernel_rfl) rfl
set_option maxHeartbeats 400000 in
theorem minDegree_calls (n : Int) (A : Option Addr) (c : Nat) (l : List (List Int)) (w : World) (hr : Kd.C kl w A l.length l) (hc : l.length ≤ c) :
    Calls Try.prog 30 #[.int .i64 n, .slice A l.length c] w fun e w' => ∃ v0, e = .returned (.tuple #[v0, .int .i64 (greedyF cfD n l).2]) ∧ Kd.R (Kd.int .i64) 3 w' w.heap.size (fun _ => True) v0 (greedyF cfD n l).1 ∧ Below w.heap.size w w' := by
  have H1 := Aside0.mk (greedy_calls cfD 55 eg55 degree_calls' n A c l w hr hc)
  generalize greedyF cfD n l = P at *
  obtain ⟨P1, P2⟩ := P
  clear hr hc
  go_enter Try.func30, Try.ntmps30
  go_wp2_with fail
  refine H1.out.mono ?_
  rintro e w1 ⟨v0, rfl, hR, hB⟩
  have HB := Aside0.mk (And.intro hR hB)
  clear hR hB H1
  go_wp2
  go_ret2
  exact ⟨_, rfl, HB.out.1, HB.out.2⟩
set_option maxHeartbeats 400000 in
theorem minFill_calls (n : Int) (A : Option Addr) (c : Nat) (l : List (List Int)) (w : World) (hr : Kd.C kl w A l.length l) (hc : l.length ≤ c) :
    Calls Try.prog 32 #[.int .i64 n, .slice A l.length c] w fun e w' => ∃ v0, e = .returned (.tuple #[v0, .int .i64 (greedyF cfF n l).2]) ∧ Kd.R (Kd.int .i64) 3 w' w.heap.size (fun _ => True) v0 (greedyF cfF n l).1 ∧ Below w.heap.size w w' := by
  have H1 := Aside0.mk (greedy_calls cfF 57 eg57 minFill1_calls n A c l w hr hc)
  generalize greedyF cfF n l = P at *
  obtain ⟨P1, P2⟩ := P
  clear hr hc
  go_enter Try.func32, Try.ntmps32
  go_wp2_with fail
  refine H1.out.mono ?_
  rintro e w1 ⟨v0, rfl, hR, hB⟩
  have HB := Aside0.mk (And.intro hR hB)
  clear hR hB H1
  go_wp2
  go_ret2
  exact ⟨_, rfl, HB.out.1, HB.out.2⟩
end
end Go.Proofs.Ytnnaakinchophaa.Ord
