/- OrderBounds: the best width is at most the width of every order and of both greedy orders, at least Lower, and at least the number of distinct variables of each scope minus 1; adding a scope never decreases it; the law, walked; no condition. -/
import Derived.Test.YtnnaakinchophaaOrdBP
import Derived.Test.YtnnaakinchophaaOrdJR
namespace Go.Proofs.Ytnnaakinchophaa.Ord
set_option linter.unusedVariables false
set_option linter.unusedSimpArgs false
open Go.RowKit Go.Proofs.YtnnaakinchophaaW.PrintWords Go.Proofs.YtnnaakinchophaaW.PrintLast Go.Proofs.YtnnaakinchophaaW.PrintMore
theorem metF_le (N : Nat) (x : List Int) : metF N x ≤ N := by
  unfold metF
  exact Nat.le_trans (List.length_filter_le _ _) (by simp)
/-- How many of the first k. -/
def metK (k : Nat) (x : List Int) : Nat := ((List.range k).filter fun v : Nat => x.any fun y => y == (v : Int)).length
theorem metK_succ (k : Nat) (x : List Int) : metK (k + 1) x = metK k x + (if (x.any fun y => y == (k : Int)) = true then 1 else 0) := by
  unfold metK
  rw [List.range_succ, List.filter_append, List.length_append]
  congr 1
  cases h : x.any fun y => y == (k : Int) <;> simp [h]
theorem metK_le (k : Nat) (x : List Int) : metK k x ≤ k := metF_le k x
/-- One row, as a row of rows. -/
theorem one_row (w : World) (A : Option Addr) (c : Nat) (x : List Int) (hx : Kd.C (Kd.int .i64) w A x.length x) (hc : x.length ≤ c) : Kd.C kl (w.alloc (.cells #[.slice A x.length c] 25)) (some ⟨w.heap.size, 0, none⟩) 1 [x] := by
  have h := own_lit_of (enc := fun t : ST => Value.slice t.1 t.2.1 t.2.2) w w.heap.size 25 [(A, x.length, c)] (Nat.le_refl _) (show (1 : Nat) ≤ 9223372036854775807 by decide)
  have hR : Kd.R ks 25 (w.alloc (.cells #[.slice A x.length c] 25)) w.heap.size (fun _ => True) (.slice (some ⟨w.heap.size, 0, none⟩) 1 1) [(A, x.length, c)] := Kd.R_of_own h (fun _ _ => trivial)
  exact C_join (Kd.R_reads' hR).2.2 (.cons ⟨rfl, hc, Kd.C_below hx ((Below.refl _ _).alloc (Nat.le_refl _) _)⟩ .nil)
set_option maxHeartbeats 4000000 in
set_option maxRecDepth 100000 in
theorem orderBounds_calls (n : Int) (A : Option Addr) (c : Nat) (l : List (List Int)) (Ao : Option Addr) (co : Nat) (o : List Int) (Am : Option Addr) (cm : Nat) (more : List Int) (w : World) (hr : Kd.C kl w A l.length l) (hc : l.length ≤ c) (ho : Kd.C (Kd.int .i64) w Ao o.length o) (hco : o.length ≤ co) (hm : Kd.C (Kd.int .i64) w Am more.length more) (hcm : more.length ≤ cm) :
    Calls Try.prog 11 #[.int .i64 n, .slice A l.length c, .slice Ao o.length co, .slice Am more.length cm] w fun e w' => e = .returned (.bool true) ∧ Below w.heap.size w w' := by
  have H0 := Aside0.mk (few_calls n A c l 7 w (by decide) (by decide) hr hc)
  have HO := Aside0.mk (And.intro ho hm)
  have HFS := Aside0.mk (fun h => few_small (n := n) (M := 7) (l := fewL ((7 : Nat) : Int) l) (by decide) h)
  clear hr hc ho hm
  go_enter Try.func11, Try.ntmps11
  go_wp2_with fail
  refine H0.out.mono ?_
  rintro e w1 ⟨v1, rfl, hR1, hB1⟩
  clear H0
  obtain ⟨A1, c1, rfl, hc1, hC1⟩ := Kd.R_reads hR1
  generalize fewN n ((7 : Nat) : Int) = n1 at *
  generalize fewL ((7 : Nat) : Int) l = l1 at *
  have HB1 := Aside0.mk hB1
  have HC1 := Aside0.mk (And.intro hC1 (And.intro (Kd.C_below HO.out.1 hB1) (Kd.C_below HO.out.2 hB1)))
  have H1 := Aside0.mk (rright_calls n1 A1 c1 l1 w1 hC1)
  clear hR1 hB1 hC1 HO
  cases hR : rightF n1 l1 with
  | false =>
    have H9 := Aside0.mk (alive_calls w1)
    rw [hR] at H1
    clear HFS hR
    go_wp2_with fail
    refine H1.out.mono ?_
    rintro e w1' ⟨rfl, rfl⟩
    go_wp2_with fail
    refine H9.out.mono ?_
    rintro e wd ⟨rfl, hb⟩
    have HBd := Aside0.mk (below_step HB1.out hb)
    clear hb
    go_wp2
    go_ret
    exact ⟨rfl, HBd.out⟩
  | true =>
    obtain ⟨N, rfl, hN⟩ := HFS.out hR
    rw [hR] at H1
    obtain ⟨D, o1, hbest, hD0, hord, hlow, hlow2, hmet, hmore⟩ := bounds_law (show N ≤ 10 by omega) hR
    have hgD := greedy_od (cf := cfD) hR
    have hgF := greedy_od (cf := cfF) hR
    rw [Int.toNat_natCast] at hgD hgF
    obtain ⟨hd1, hd2, hd3⟩ := hgD
    obtain ⟨hf1, hf2, hf3⟩ := hgF
    have HOD := Aside0.mk (hord _ hd1 hd2)
    have HOF := Aside0.mk (hord _ hf1 hf2)
    have HORD := Aside0.mk hord
    have HMET := Aside0.mk hmet
    have HMORE := Aside0.mk hmore
    have hl1000 : l1.length ≤ 1000 := (rightF_true hR).2.2.1
    have H2 := Aside0.mk (best_all N A1 c1 l1 _ _ _ w1 HC1.out.1 hc1 hbest)
    have H3 := Aside0.mk (fun W h => lordered_calls Ao co o N W (by omega) h)
    have H4 := Aside0.mk (fun A2 c2 xs W h1 h2 => width_calls N A1 c1 l1 A2 c2 xs W h1 hc1 h2)
    have H5 := Aside0.mk (fun W h => minDegree_calls N A1 c1 l1 W h hc1)
    have H6 := Aside0.mk (fun W h => minFill_calls N A1 c1 l1 W h hc1)
    have H7 := Aside0.mk (fun W h => lower_calls N A1 c1 l1 W h hc1)
    rw [hd3] at H5
    rw [hf3] at H6
    rw [hlow2] at H7
    generalize (greedyF cfD (N : Int) l1).1 = gd at *
    generalize (greedyF cfF (N : Int) l1).1 = gf at *
    generalize (lowerF (N : Int) l1).1 = low at *
    have hlowd : decide (D < low) = false := decide_eq_false (by omega)
    clear HFS hR hbest hord hlow hlow2 hmet hmore hd1 hd2 hd3 hf1 hf2 hf3
    go_wp2_with fail
    refine H1.out.mono ?_
    rintro e w1' ⟨rfl, rfl⟩
    clear H1
    go_wp2_with fail
    refine H2.out.mono ?_
    rintro e w2 ⟨v2, rfl, hR2, hB2⟩
    have HB2 := Aside0.mk (below_step HB1.out hB2)
    have HC2 := Aside0.mk (And.intro (Kd.C_below HC1.out.1 hB2) (And.intro (Kd.C_below HC1.out.2.1 hB2) (Kd.C_below HC1.out.2.2 hB2)))
    clear H2 hB2 HB1 HC1 hR2
    go_wp2_with fail
    refine (H3.out w2 HC2.out.2.1).mono ?_
    rintro e w3 ⟨v3, xs, rfl, hR3, hB3, hxl, hxo⟩
    obtain ⟨A3, c3, rfl, hc3, hC3⟩ := Kd.R_reads hR3
    have HB3 := Aside0.mk (below_step HB2.out hB3)
    have HC3 := Aside0.mk (And.intro (Kd.C_below HC2.out.1 hB3) (Kd.C_below HC2.out.2.2 hB3))
    have hx := HORD.out xs hxo hxl
    have H8 := Aside0.mk (H4.out A3 c3 xs w3 HC3.out.1 hC3)
    rw [hx.2] at H8
    have hxD := hx.1
    generalize (playedF (N : Int) l1 xs).1 = a at *
    have had : decide (a < D) = false := decide_eq_false (by omega)
    clear H3 hB3 HB2 HC2 hR3 hC3 hxl hxo hx hxD
    go_wp2_with fail
    refine H8.out.mono ?_
    rintro e w4 ⟨rfl, hB4⟩
    have HB4 := Aside0.mk (below_step HB3.out hB4)
    have HC4 := Aside0.mk (And.intro (Kd.C_below HC3.out.1 hB4) (Kd.C_below HC3.out.2 hB4))
    clear H8 hB4 HB3 HC3
    go_wp2_with fail
    refine (H5.out w4 HC4.out.1).mono ?_
    rintro e w5 ⟨v5, rfl, hR5, hB5⟩
    obtain ⟨A5, c5, rfl, hc5, hC5⟩ := Kd.R_reads hR5
    have HB5 := Aside0.mk (below_step HB4.out hB5)
    have HC5 := Aside0.mk (And.intro (And.intro (Kd.C_below HC4.out.1 hB5) (Kd.C_below HC4.out.2 hB5)) hC5)
    clear H5 hB5 HB4 HC4 hR5 hC5
    go_wp2_with fail
    refine (H6.out w5 HC5.out.1.1).mono ?_
    rintro e w6 ⟨v6, rfl, hR6, hB6⟩
    obtain ⟨A6, c6, rfl, hc6, hC6⟩ := Kd.R_reads hR6
    have HB6 := Aside0.mk (below_step HB5.out hB6)
    have HC6 := Aside0.mk (And.intro (And.intro (Kd.C_below HC5.out.1.1 hB6) (Kd.C_below HC5.out.1.2 hB6)) (And.intro (Kd.C_below HC5.out.2 hB6) hC6))
    have H8 := Aside0.mk (H4.out A5 c5 gd w6 HC6.out.1.1 HC6.out.2.1)
    have h1 := HOD.out.1
    rw [HOD.out.2] at H8
    generalize (playedF (N : Int) l1 gd).1 = b at *
    have hbd : decide (b < D) = false := decide_eq_false (by omega)
    clear H6 hB6 HB5 HC5 hR6 hC6 h1
    go_wp2_with fail
    refine H8.out.mono ?_
    rintro e w7 ⟨rfl, hB7⟩
    have HB7 := Aside0.mk (below_step HB6.out hB7)
    have HC7 := Aside0.mk (And.intro (And.intro (Kd.C_below HC6.out.1.1 hB7) (Kd.C_below HC6.out.1.2 hB7)) (Kd.C_below HC6.out.2.2 hB7))
    have H9 := Aside0.mk (H4.out A6 c6 gf w7 HC7.out.1.1 HC7.out.2)
    have h1 := HOF.out.1
    rw [HOF.out.2] at H9
    generalize (playedF (N : Int) l1 gf).1 = c0 at *
    have hcd : decide (c0 < D) = false := decide_eq_false (by omega)
    clear H8 hB7 HB6 HC6 h1
    go_wp2_with fail
    refine H9.out.mono ?_
    rintro e w8 ⟨rfl, hB8⟩
    have HB8 := Aside0.mk (below_step HB7.out hB8)
    have HC8 := Aside0.mk (And.intro (Kd.C_below HC7.out.1.1 hB8) (Kd.C_below HC7.out.1.2 hB8))
    clear H9 hB8 HB7 HC7
    go_wp2_with fail
    refine (H7.out w8 HC8.out.1).mono ?_
    rintro e w9 ⟨rfl, hB9⟩
    have HB9 := Aside0.mk (below_step HB8.out hB9)
    have HC9 := Aside0.mk (And.intro (Kd.C_below HC8.out.1 hB9) (Kd.C_below HC8.out.2 hB9))
    clear H7 H4 hB9 HB8 HC8
    go_wp2
    go_loopw [131] (fun s131 wr => ∃ k : Nat, k ≤ l1.length ∧ s131 = .int .i64 (k : Int) ∧ wr = w9) (fun s131 _ => (l1.length - (intOf s131).toNat))
    case atStart => exact ⟨0, by omega, rfl, rfl⟩
    case round =>
      obtain ⟨k, hk, rfl, hwr⟩ := hrel
      have hwr2 := hwr.symm
      subst hwr2
      clear hwr
      by_cases hlt : k < l1.length
      · have hkd : decide (k < l1.length) = true := decide_eq_true hlt
        obtain ⟨ad, A0, c0, hA1, hx0, hc0, hC0⟩ := kl_at HC9.out.1 k hlt
        have hmx := HMET.out _ (getD_mem [] l1 k hlt)
        generalize l1.getD k [] = x at *
        have HCX := Aside0.mk hC0
        have hxm := Kd.C_max hC0
        have HM : Aside0 (metF N x = metK N x) := ⟨rfl⟩
        rw [HM.out] at hmx
        have hmd : decide (D < (metK N x : Int) - 1) = false := decide_eq_false (by omega)
        have HMD := Aside0.mk hmd
        subst hA1
        clear hC0 hmx hmd
        go_wp2
        go_loopw [26, 27] (fun s26 s27 wr => ∃ v : Nat, v ≤ N ∧ s27 = .int .i64 (v : Int) ∧ s26 = .int .i64 (metK v x : Int) ∧ wr = w9) (fun _ s27 _ => (N - (intOf s27).toNat))
        case atStart => exact ⟨0, by omega, rfl, rfl, rfl⟩
        case round =>
          obtain ⟨v, hv, rfl, rfl, hwr⟩ := hrel
          have hwr2 := hwr.symm
          subst hwr2
          clear hwr
          by_cases hltv : v < N
          · have hvd : decide (v < N) = true := decide_eq_true hltv
            have HS := Aside0.mk (metK_succ v x)
            have hql := metK_le v x
            generalize metK v x = q at *
            go_wp2
            go_loopw [26, 142] (fun s26 s142 wr => ∃ j : Nat, j ≤ x.length ∧ s142 = .int .i64 (j : Int) ∧ s26 = .int .i64 (q : Int) ∧ Aside0 (∀ i, i < j → (x.getD i 0 == (v : Int)) = false) ∧ wr = w9) (fun _ s142 _ => (x.length - (intOf s142).toNat))
            case atStart => exact ⟨0, by omega, rfl, rfl, ⟨fun i hi => by omega⟩, rfl⟩
            case round =>
              obtain ⟨j, hj, rfl, rfl, HA, hwr⟩ := hrel
              have hwr2 := hwr.symm
              subst hwr2
              clear hwr
              by_cases hltj : j < x.length
              · have hjd : decide (j < x.length) = true := decide_eq_true hltj
                obtain ⟨ad2, hA0, hy⟩ := kn_at HCX.out j hltj
                obtain ⟨z, hz⟩ : ∃ z, x.getD j 0 = z := ⟨_, rfl⟩
                have hmem := getD_mem 0 x j hltj
                rw [hz] at hy hmem
                have HZ := Aside0.mk hz
                have HMz := Aside0.mk hmem
                subst hA0
                clear hz hmem
                cases hq : (z == (v : Int)) with
                | true =>
                  have hT : Aside0 ((metK (v + 1) x : Int) = (q : Int) + 1) := ⟨by
                    rw [HS.out, if_pos (List.any_eq_true.2 ⟨z, HMz.out, hq⟩)]
                    rfl⟩
                  go_wp2
                  go_roundw
                  case rel => exact ⟨v + 1, by omega, by go_num, by rw [hT.out], trivial⟩
                  case measure => simp [intOf]; omega
                | false =>
                  have HN2 : Aside0 (∀ i, i < j + 1 → (x.getD i 0 == (v : Int)) = false) := ⟨fun i hi => by
                    rcases Nat.lt_or_ge i j with h | h
                    · exact HA.out i h
                    · obtain rfl : i = j := by omega
                      rw [HZ.out]; exact hq⟩
                  go_wp2
                  go_roundw
                  case rel => exact ⟨j + 1, by omega, by go_num, rfl, HN2, trivial⟩
                  case measure => simp [intOf]; omega
              · obtain rfl : j = x.length := by omega
                have hT : Aside0 (metK (v + 1) x = q) := ⟨by
                  rw [HS.out, if_neg, Nat.add_zero]
                  intro h
                  obtain ⟨y, hy, he⟩ := List.any_eq_true.1 h
                  obtain ⟨i, hi, rfl⟩ := List.getElem_of_mem hy
                  have := HA.out i hi
                  rw [List.getD_eq_getElem?_getD, List.getElem?_eq_getElem hi] at this
                  simp at this
                  simp at he
                  exact this he⟩
                go_wp2
                go_roundw
                case rel => exact ⟨v + 1, by omega, by go_num, by rw [hT.out], trivial⟩
                case measure => simp [intOf]; omega
          · obtain rfl : v = N := by omega
            have hmd := HMD.out
            have hql := metK_le v x
            generalize metK v x = q at *
            go_wp2
            go_roundw
            case rel => exact ⟨k + 1, by omega, by go_num, trivial⟩
            case measure => simp [intOf]; omega
      · obtain rfl : k = l1.length := by omega
        have hbW : Below w9.heap.size w9 (w9.alloc (.cells #[.slice Am more.length cm] 25)) := (Below.refl _ w9).alloc (Nat.le_refl _) _
        have HA := Aside0.mk (few_calls N (some ⟨w9.heap.size, 0, none⟩) 1 [more] 7 (w9.alloc (.cells #[.slice Am more.length cm] 25)) (by decide) (by decide) (one_row w9 Am cm more HC9.out.2 hcm) (Nat.le_refl _))
        have HBW := Aside0.mk (below_step HB9.out hbW)
        have HCW := Aside0.mk (Kd.C_below HC9.out.1 hbW)
        clear hbW HMET HORD HOD HOF
        go_wp2_with fail
        refine HA.out.mono ?_
        rintro e w10 ⟨v10, rfl, hR10, hB10⟩
        obtain ⟨A10, c10, rfl, hc10, hC10⟩ := Kd.R_reads hR10
        have hl2len : (fewL ((7 : Nat) : Int) [more]).length ≤ 1 := by
          unfold fewL
          rw [List.length_map, List.length_take]
          simp
        generalize fewL ((7 : Nat) : Int) [more] = l2 at *
        have HB10 := Aside0.mk (below_step HBW.out hB10)
        obtain ⟨T1, hCT1, hST1⟩ := C_split (Kd.C_below HCW.out hB10)
        obtain ⟨T2, hCT2, hST2⟩ := C_split hC10
        have hT1l := hST1.len
        have hT2l := hST2.len
        rw [hT1l] at hCT1
        rw [hT2l] at hCT2
        have HS1 := Aside0.mk hST1
        have HS2 := Aside0.mk hST2
        have hT1len : T1.length ≤ 1000 := by omega
        have hT2len : T2.length ≤ 1 := by omega
        have hI0 := ks_empty w10 w10.heap.size (Nat.le_refl _)
        have hbA : Below w10.heap.size w10 (w10.alloc (.cells #[] 25)) := (Below.refl _ _).alloc (Nat.le_refl _) _
        have hCT1' := Kd.C_below hCT1 hbA
        have HCT2 := Aside0.mk hCT2
        have HTL := Aside0.mk (And.intro hT1l hT2l)
        have hl2b : l2.length ≤ 1 := hl2len
        clear HA hR10 hB10 HBW HCW hC10 hCT1 hCT2 hST1 hST2 hT1l hT2l hl2len
        go_wp2_with (first | (at_builtin; refine Kd.R_append_rows ks (w0 := w10) w10.heap.size rfl (.tmp 164) (.tmp 165) 22 25 (.slice none 0 0) 24 rfl Try.underlying22 info25 rfl (by decide) (by omega) _ [] T1 A1 _ c1 (fun _ => True) (fun _ => False) rfl rfl ?aO hCT1' (fun _ _ h => h) (fun _ hk => hk.elim) (fun _ _ => trivial) ?aB ?aS ?aL ?_; (case aO => exact hI0); (case aB => exact hbA); (case aS => exact hbA.size); (case aL => simp; omega); intro v7 w11 ho7 hb7 hg7 hat7; obtain ⟨A7, c7, rfl⟩ := Kd.R_slice ho7; have hCT2' := Kd.C_below HCT2.out hb7) | (at_builtin; refine Kd.R_append_rows ks (w0 := w10) w10.heap.size rfl (.tmp 166) (.tmp 167) 22 25 (.slice none 0 0) 24 rfl Try.underlying22 info25 rfl (by decide) (by omega) _ ([] ++ T1) T2 A10 _ c10 (fun _ => True) (fun _ => False) rfl rfl ?aO hCT2' (fun _ _ h => h) (fun _ hk => hk.elim) (fun _ _ => trivial) ?aB ?aS ?aL ?_; (case aO => exact ho7); (case aB => exact hb7); (case aS => exact hb7.size); (case aL => simp; omega); intro v8 w12 ho8 hb8 hg8 hat8; obtain ⟨A8, c8, rfl, hc8, hC8⟩ := Kd.R_reads ho8))
        have hall : Kd.C kl w12 A8 (l1 ++ l2).length (l1 ++ l2) := C_join (T := [] ++ T1 ++ T2) hC8 ((HS1.out.low hb8).append (HS2.out.low hb8))
        have hle : ([] ++ T1 ++ T2).length = (l1 ++ l2).length := by
          rw [List.nil_append, List.length_append, List.length_append, HTL.out.1, HTL.out.2]
        have HB12 := Aside0.mk (below_step HB10.out hb8)
        have HALL := Aside0.mk hall
        have hmo := HMORE.out l2
        rw [hle] at hc8
        have Hr2 := Aside0.mk (rright_calls N A8 c8 (l1 ++ l2) w12 hall)
        have Hb2 := Aside0.mk (fun o2 D2 h => best_all N A8 c8 (l1 ++ l2) o2 D2 0 w12 hall hc8 h)
        have hle2 : T1.length + T2.length = (l1 ++ l2).length := by rw [← hle]; simp
        rw [hle2]
        generalize hal : l1 ++ l2 = all at *
        clear hle hle2 ho7 hb7 hg7 hat7 ho8 hb8 hg8 hat8 hC8 hI0 hbA hCT1' hCT2' hall hal
        cases hR2 : rightF (N : Int) all with
        | false =>
          rw [hR2] at Hr2
          have H9 := Aside0.mk (alive_calls w12)
          clear hmo Hb2 hR2
          refine Hr2.out.mono ?_
          rintro e w13 ⟨rfl, rfl⟩
          go_wp2_with fail
          refine H9.out.mono ?_
          rintro e wd ⟨rfl, hb⟩
          have HBd := Aside0.mk (below_step HB12.out hb)
          clear hb
          go_wp2
          go_ret
          exact ⟨rfl, HBd.out⟩
        | true =>
          rw [hR2] at Hr2
          obtain ⟨D2, o2, hb2, hD2⟩ := hmo hR2
          have H8 := Aside0.mk (Hb2.out o2 D2 hb2)
          have hdd : decide (D ≤ D2) = true := decide_eq_true hD2
          clear hmo Hb2 hb2 hR2
          refine Hr2.out.mono ?_
          rintro e w13 ⟨rfl, rfl⟩
          go_wp2_with fail
          refine H8.out.mono ?_
          rintro e w14 ⟨v14, rfl, hR14, hB14⟩
          have HB14 := Aside0.mk (below_step HB12.out hB14)
          have H9 := Aside0.mk (alive_calls w14)
          clear hR14 hB14 HB12 H8 Hr2
          go_wp2_with fail
          refine H9.out.mono ?_
          rintro e wd ⟨rfl, hb⟩
          have HBd := Aside0.mk (below_step HB14.out hb)
          clear hb
          go_wp2
          go_ret
          exact ⟨rfl, HBd.out⟩
end Go.Proofs.Ytnnaakinchophaa.Ord
