/- OrderFills: the graph with the fill-in edges of an order is chordal, and the same order then has no fill-in and the same width; the law, walked; no condition. -/
import Derived.Test.YtnnaakinchophaaOrdGF
import Derived.Test.YtnnaakinchophaaOrdHS
namespace Go.Proofs.Ytnnaakinchophaa.Ord
set_option linter.unusedVariables false
set_option linter.unusedSimpArgs false
open Go.RowKit Go.Proofs.YtnnaakinchophaaW.PrintWords Go.Proofs.YtnnaakinchophaaW.PrintLast Go.Proofs.YtnnaakinchophaaW.PrintMore
theorem few_small {n : Int} {M : Nat} {l : List (List Int)} (hM : M ≤ 16) (h : rightF (fewN n (M : Int)) l = true) : ∃ N : Nat, fewN n (M : Int) = (N : Int) ∧ N ≤ M := by
  have hT := rightF_true h
  obtain ⟨N, hN⟩ := Int.eq_ofNat_of_zero_le hT.1
  refine ⟨N, hN, ?_⟩
  have h1 := hT.2.1
  unfold fewN at hN h1
  split at hN
  · omega
  · rename_i hc
    omega
set_option maxHeartbeats 4000000 in
set_option maxRecDepth 100000 in
theorem orderFills_calls (n : Int) (A : Option Addr) (c : Nat) (l : List (List Int)) (Ao : Option Addr) (co : Nat) (o : List Int) (w : World) (hr : Kd.C kl w A l.length l) (hc : l.length ≤ c) (ho : Kd.C (Kd.int .i64) w Ao o.length o) (hco : o.length ≤ co) :
    Calls Try.prog 10 #[.int .i64 n, .slice A l.length c, .slice Ao o.length co] w fun e w' => e = .returned (.bool true) ∧ Below w.heap.size w w' := by
  have H0 := Aside0.mk (few_calls n A c l 9 w (by decide) (by decide) hr hc)
  have HO := Aside0.mk ho
  have HFS := Aside0.mk (fun h => few_small (n := n) (M := 9) (l := fewL ((9 : Nat) : Int) l) (by decide) h)
  clear hr hc ho
  go_enter Try.func10, Try.ntmps10
  go_wp2_with fail
  refine H0.out.mono ?_
  rintro e w1 ⟨v1, rfl, hR1, hB1⟩
  clear H0
  obtain ⟨A1, c1, rfl, hc1, hC1⟩ := Kd.R_reads hR1
  generalize fewN n ((9 : Nat) : Int) = n1 at *
  generalize fewL ((9 : Nat) : Int) l = l1 at *
  have HB1 := Aside0.mk hB1
  have HC1 := Aside0.mk hC1
  have HO1 := Aside0.mk (Kd.C_below HO.out hB1)
  have H1 := Aside0.mk (rright_calls n1 A1 c1 l1 w1 hC1)
  clear hR1 hB1 hC1 HO
  by_cases hok : rightF n1 l1 = true ∧ l1.length ≤ 200
  · obtain ⟨hR, hl⟩ := hok
    obtain ⟨N, rfl, hN⟩ := HFS.out hR
    rw [hR] at H1
    have hlb : decide (200 < (l1.length : Int)) = false := decide_eq_false (by omega)
    have H2 := Aside0.mk (lordered_calls Ao co o N w1 (by omega) HO1.out)
    have HRt := Aside0.mk hR
    clear HFS hR
    go_wp2_with fail
    refine H1.out.mono ?_
    rintro e w1' ⟨rfl, rfl⟩
    clear H1
    go_wp2_with fail
    refine H2.out.mono ?_
    rintro e w2 ⟨v2, xs, rfl, hR2, hB2, hxl, hxo⟩
    obtain ⟨A2, c2, rfl, hc2, hC2⟩ := Kd.R_reads hR2
    have HB2 := Aside0.mk (below_step HB1.out hB2)
    have HC2 := Aside0.mk (And.intro (Kd.C_below HC1.out hB2) hC2)
    have hlaw := fills_law hN HRt.out hl hxo hxl
    have H3 := Aside0.mk (fill_calls N A1 c1 l1 A2 c2 xs w2 HC2.out.1 hc1 HC2.out.2)
    have H4 := Aside0.mk (fun W h1 h2 => width_calls N A1 c1 l1 A2 c2 xs W h1 hc1 h2)
    generalize hPe : playedF N l1 xs = P at *
    obtain ⟨f1, f2, f3⟩ := P
    obtain ⟨hf3, hch, hpl, hfl⟩ := hlaw
    have hf3' : f3 = 0 := hf3
    subst hf3'
    have HCH := Aside0.mk hch
    have HPL := Aside0.mk hpl
    have hfl' : f2.length ≤ 729 := hfl
    clear H2 HC1 HO1 HB1 hB2 hR2 hC2 hxo hPe hf3 hch hpl hfl hxl
    go_wp2_with fail
    refine H3.out.mono ?_
    rintro e w3 ⟨v3, rfl, hR3, hB3⟩
    obtain ⟨A3, c3, rfl, hc3, hC3⟩ := Kd.R_reads hR3
    have HB3 := Aside0.mk (below_step HB2.out hB3)
    have HC3 := Aside0.mk (And.intro (And.intro (Kd.C_below HC2.out.1 hB3) (Kd.C_below HC2.out.2 hB3)) hC3)
    clear H3 HC2 HB2 hB3 hR3 hC3
    go_wp2_with fail
    refine (H4.out w3 HC3.out.1.1 HC3.out.1.2).mono ?_
    rintro e w4 ⟨rfl, hB4⟩
    have HB4 := Aside0.mk (below_step HB3.out hB4)
    have HC4 := Aside0.mk (And.intro (And.intro (Kd.C_below HC3.out.1.1 hB4) (Kd.C_below HC3.out.1.2 hB4)) (Kd.C_below HC3.out.2 hB4))
    clear H4 HC3 HB3 hB4
    obtain ⟨T, hCT, hST⟩ := C_split HC4.out.1.1
    have hTl : T.length = l1.length := hST.len
    have HST := Aside0.mk hST
    clear hST
    have hI0 : Kd.R ks 25 (w4.alloc (.cells #[] 25)) w4.heap.size (fun _ => True) (.slice (some ⟨w4.heap.size, 0, none⟩) 0 0) [] := ks_empty w4 w4.heap.size (Nat.le_refl _)
    have hbA : Below w4.heap.size w4 (w4.alloc (.cells #[] 25)) := (Below.refl _ _).alloc (Nat.le_refl _) _
    have hCT1 : Kd.C ks (w4.alloc (.cells #[] 25)) A1 l1.length T := by
      have := Kd.C_below hCT hbA
      rw [hTl] at this
      exact this
    have hTlen : T.length ≤ 200 := by omega
    clear hCT hTl
    go_wp2_with (at_builtin; refine Kd.R_append_rows ks (w0 := w4) w4.heap.size rfl (.tmp 54) (.tmp 55) 22 25 (.slice none 0 0) 24 rfl Try.underlying22 info25 rfl (by decide) (by omega) _ [] T A1 _ c1 (fun _ => True) (fun _ => False) rfl rfl ?aO hCT1 (fun _ _ h => h) (fun _ hk => hk.elim) (fun _ _ => trivial) ?aB ?aS ?aL ?_; (case aO => exact hI0); (case aB => exact hbA); (case aS => exact hbA.size); (case aL => simp; omega); intro v7 w7 ho7 hb7 hg7 hat7; have HI7 : AlI w4 w7 v7 T [] [] := ⟨by rw [List.append_nil]; exact ho7, .nil, hb7⟩; clear ho7 hb7 hg7 hat7 hCT1)
    have H5 := Aside0.mk hfl'
    have hHI := Aside0.mk HI7
    clear hI0 hbA
    obtain ⟨s7, hs7⟩ : ∃ s7 : Value, v7 = s7 := ⟨_, rfl⟩
    go_wp2
    go_loopw [12, 59] (fun s12 s59 wr => ∃ k : Nat, ∃ T1 : List ST, k ≤ f2.length ∧ s59 = .int .i64 (k : Int) ∧ Aside0 (T1.length = k) ∧ AlI w4 wr s12 T T1 (f2.take k)) (fun _ s59 _ => (f2.length - (intOf s59).toNat))
    case atStart => exact ⟨0, [], by omega, rfl, ⟨rfl⟩, by rw [List.take_zero]; exact hHI.out⟩
    case round =>
      clear HI7 hHI
      obtain ⟨k, T1, hk, rfl, HT1, HI⟩ := hrel
      by_cases hlt : k < f2.length
      · have hkd : decide (k < f2.length) = true := decide_eq_true hlt
        obtain ⟨ad, rfl, hx0, hy0⟩ := kp_at HC4.out.2 k hlt
        have htk : f2.take (k + 1) = f2.take k ++ [f2.getD k (0, 0)] := by
          rw [List.take_add_one, List.getD_eq_getElem?_getD, List.getElem?_eq_getElem hlt]
          rfl
        have HTK := Aside0.mk htk
        generalize f2.getD k (0, 0) = p at *
        obtain ⟨a, b⟩ := p
        have hx := pw_cell_below HI.bel hx0
        have hy := pw_cell_below HI.bel hy0
        have HI1 := HI.alloc (.cells #[.int .i64 a, .int .i64 b] 48)
        have HI2 := HI1.alloc (.cells #[.int .i64 a, .int .i64 b] 3)
        obtain ⟨W2, hW2⟩ : ∃ W2 : World, (wr.alloc (.cells #[.int .i64 a, .int .i64 b] 48)).alloc (.cells #[.int .i64 a, .int .i64 b] 3) = W2 := ⟨_, rfl⟩
        have hg : W2.heap[wr.heap.size + 1]? = some (.cells #[.int .i64 a, .int .i64 b] 3 (0, 0)) := by
          rw [← hW2]
          have := blk_new (wr.alloc (.cells #[.int .i64 a, .int .i64 b] 48)) (.cells #[.int .i64 a, .int .i64 b] 3)
          rwa [World.size_alloc] at this
        have hl2 : (T ++ T1).length ≤ 2000 := by rw [List.length_append, HT1.out]; omega
        rw [hW2] at HI2
        clear hx0 hy0 htk HI HI1
        obtain ⟨A12, c12, rfl⟩ := Kd.R_slice HI2.row
        go_wp2_with (at_builtin; refine Kd.R_append ks (w0 := w4) w4.heap.size rfl (.tmp 63) (.tmp 69) 22 25 (.slice none 0 0) 24 rfl Try.underlying22 info25 rfl (by decide) (by omega) _ (T ++ T1) (some ⟨wr.heap.size + 1, 0, none⟩, 2, 2) [.slice (some ⟨wr.heap.size + 1, 0, none⟩) 2 2] (fun _ => True) (fun _ => False) rfl rfl ?aP (fun _ hk => hk.elim) ?aF ?aO ?aB ?aS ?aL ?_; (case aP => exact rfl); (case aF => exact (fun _ _ => trivial)); (case aO => exact HI2.row); (case aB => exact HI2.bel); (case aS => exact HI2.bel.size); (case aL => omega); intro v1 w9 ho hb1 hg1 hat1; have HI9 := HI2.push (p := (a, b)) hg ho hb1 hg1; rw [← HTK.out] at HI9; clear ho hb1 hg1 hat1 HI2 hg hW2)
        go_roundw
        case rel => exact ⟨v1, _, _, ⟨k + 1, by omega, by go_num, _, ⟨by rw [List.length_append, HT1.out]; rfl⟩, HI9⟩, rfl, rfl, rfl⟩
        case measure => simp [intOf]; omega
      · obtain rfl : k = f2.length := by omega
        rw [List.take_length] at HI
        obtain ⟨A12, c12, rfl, hc12, -⟩ := Kd.R_reads HI.row
        have hle : (T ++ T1).length = (l1 ++ f2.map lst).length := by rw [List.length_append, List.length_append, List.length_map, HT1.out, HST.out.len]
        have hCA : Kd.C kl wr A12 (l1 ++ f2.map lst).length (l1 ++ f2.map lst) := HI.read HST.out
        have hB1 : Below w.heap.size w wr := below_step HB4.out (HI.bel)
        have hx1 := Kd.C_below HC4.out.1.2 HI.bel
        rw [hle] at hc12 ⊢
        generalize l1 ++ f2.map lst = all at *
        have HA := Aside0.mk (And.intro hCA hx1)
        have HB := Aside0.mk hB1
        have H6 := Aside0.mk (chordal_calls N A12 c12 all wr hCA hc12)
        rw [HCH.out] at H6
        have H7 := Aside0.mk (fun W h1 h2 => fill_calls N A12 c12 all A2 c2 xs W h1 hc12 h2)
        have H8 := Aside0.mk (fun W h1 h2 => width_calls N A12 c12 all A2 c2 xs W h1 hc12 h2)
        rw [HPL.out] at H7 H8
        clear hCA hx1 hB1 HI hle
        go_wp2_with fail
        refine H6.out.mono ?_
        rintro e wa ⟨rfl, hb⟩
        have HA1 := Aside0.mk (And.intro (Kd.C_below HA.out.1 hb) (Kd.C_below HA.out.2 hb))
        have HBa := Aside0.mk (below_step HB.out hb)
        clear hb H6 HA HB
        go_wp2_with fail
        refine (H7.out wa HA1.out.1 HA1.out.2).mono ?_
        rintro e wb ⟨vb, rfl, hRb, hb⟩
        have HA2 := Aside0.mk (And.intro (Kd.C_below HA1.out.1 hb) (Kd.C_below HA1.out.2 hb))
        have HBb := Aside0.mk (below_step HBa.out hb)
        obtain ⟨Ab, cb, rfl, -, -⟩ := Kd.R_reads hRb
        clear hb H7 HA1 HBa hRb
        go_wp2_with fail
        refine (H8.out wb HA2.out.1 HA2.out.2).mono ?_
        rintro e wc ⟨rfl, hb⟩
        have HBc := Aside0.mk (below_step HBb.out hb)
        have H9 := Aside0.mk (alive_calls wc)
        have hee : (f1 == f1) = true := by simp
        clear hb H8 HA2 HBb
        go_wp2_with fail
        refine H9.out.mono ?_
        rintro e wd ⟨rfl, hb⟩
        have HBd := Aside0.mk (below_step HBc.out hb)
        clear hb
        go_wp2
        go_ret
        exact ⟨rfl, HBd.out⟩
  · have H9 := Aside0.mk (alive_calls w1)
    cases hR : rightF n1 l1 with
    | false =>
      rw [hR] at H1
      clear hok HFS hR
      go_wp2_with fail
      refine H1.out.mono ?_
      rintro e w1' ⟨rfl, rfl⟩
      go_wp2_with fail
      refine H9.out.mono ?_
      rintro e wd ⟨rfl, hb⟩
      have HBd := Aside0.mk (below_step HB1.out hb)
      clear hb
      go_wp2
      go_ret
      exact ⟨rfl, HBd.out⟩
    | true =>
      have hl : ¬ l1.length ≤ 200 := fun h => hok ⟨hR, h⟩
      have hlb : decide (200 < (l1.length : Int)) = true := decide_eq_true (by omega)
      rw [hR] at H1
      clear hok HFS hR
      go_wp2_with fail
      refine H1.out.mono ?_
      rintro e w1' ⟨rfl, rfl⟩
      go_wp2_with fail
      refine H9.out.mono ?_
      rintro e wd ⟨rfl, hb⟩
      have HBd := Aside0.mk (below_step HB1.out hb)
      clear hb
      go_wp2
      go_ret
      exact ⟨rfl, HBd.out⟩
end Go.Proofs.Ytnnaakinchophaa.Ord
