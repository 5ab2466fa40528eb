/- The reference's Ordered, Width and Fill, walked; conditions as written. -/
import Derived.Test.YtnnaakinchophaaOrdQ
import Derived.Test.YtnnaakinchophaaOrdS
namespace Go.Proofs.Ytnnaakinchophaa.Ord
set_option linter.unusedVariables false
set_option linter.unusedSimpArgs false
open Go.RowKit Go.Proofs.YtnnaakinchophaaW.PrintWords Go.Proofs.YtnnaakinchophaaW.PrintLast Go.Proofs.YtnnaakinchophaaW.PrintMore
structure OrI (w wr : World) (n g seen : Nat) : Prop where
  met : wr.heap[g]? = some (.cells (tab n fun j => .bool (seen.testBit j)) 4 (0, 0))
  bel : Below w.heap.size w wr
set_option maxHeartbeats 4000000 in
set_option maxRecDepth 100000 in
theorem ordered_calls (n : Nat) (A : Option Addr) (c : Nat) (o : List Int) (w : World) (hn : n ≤ 16) (hr : Kd.C (Kd.int .i64) w A o.length o) :
    Calls Try.prog 52 #[.slice A o.length c, .int .i64 (n : Int)] w fun e w' => e = .returned (.bool (allF n o)) ∧ Below w.heap.size w w' := by
  have hmax := Kd.C_max hr
  have HR := Aside0.mk hr
  clear hr
  by_cases hl : o.length = n
  · have hlb : ((o.length : Int) != (n : Int)) = false := by rw [hl]; simp
    have hmk := print_make_of (P := Try.prog) 59 4 (.bool false) 1 Try.underlying59 info4 rfl (by decide) n (by omega)
    rw [tab_made] at hmk
    have HI0 : OrI w (w.alloc (.cells (tab n fun _ => .bool false) 4)) n w.heap.size 0 := ⟨by
      refine (blk_new w _).trans ?_
      congr 2
      exact tab_congr fun i _ => by rw [Nat.zero_testBit], (Below.refl _ _).alloc (Nat.le_refl _) _⟩
    have hAll : Aside0 (allF n o = (alL n 0 o).isSome) := ⟨by unfold allF; rw [decide_eq_true (by omega), Bool.and_true]⟩
    go_enter Try.func52, Try.ntmps52
    go_wp2
    go_loopw [16] (fun s16 wr => ∃ k seen : Nat, k ≤ o.length ∧ s16 = .int .i64 (k : Int) ∧ Aside0 (alL n seen (o.drop k) = alL n 0 o) ∧ OrI w wr n w.heap.size seen) (fun s16 _ => (o.length - (intOf s16).toNat))
    case atStart => exact ⟨0, 0, by omega, rfl, ⟨rfl⟩, HI0⟩
    case round =>
      clear HI0 hmk
      obtain ⟨k, seen, hk, rfl, HA, HI⟩ := hrel
      by_cases hlt : k < o.length
      · have hkd : decide (k < o.length) = true := decide_eq_true hlt
        obtain ⟨ad, rfl, hx0⟩ := kn_at HR.out k hlt
        have hx := pw_cell_below HI.bel hx0
        have hd := Aside0.mk (drop_getD 0 o k hlt)
        clear hx0
        generalize o.getD k 0 = v at *
        have hE : Aside0 ((if v < 0 ∨ (n : Int) ≤ v then none else if seen.testBit v.toNat then none else alL n (sb seen v.toNat) (o.drop (k + 1))) = alL n 0 o) := ⟨by rw [← HA.out, hd.out]; rfl⟩
        clear hd HA
        by_cases h0 : v < 0
        · have h0b : decide (v < 0) = true := decide_eq_true h0
          have HF : Aside0 (allF n o = false) := ⟨by rw [hAll.out, ← hE.out, if_pos (Or.inl h0)]; rfl⟩
          go_wp2
          go_ret
          exact ⟨by rw [HF.out]; rfl, HI.bel⟩
        · have h0b : decide (v < 0) = false := decide_eq_false h0
          by_cases h1 : (n : Int) ≤ v
          · have h1b : decide ((n : Int) ≤ v) = true := decide_eq_true h1
            have HF : Aside0 (allF n o = false) := ⟨by rw [hAll.out, ← hE.out, if_pos (Or.inr h1)]; rfl⟩
            go_wp2
            go_ret
            exact ⟨by rw [HF.out]; rfl, HI.bel⟩
          · have h1b : decide ((n : Int) ≤ v) = false := decide_eq_false h1
            obtain ⟨u, rfl⟩ := Int.eq_ofNat_of_zero_le (show 0 ≤ v by omega)
            have hu : u < n := by omega
            have h1c : decide (n ≤ u) = false := decide_eq_false (by omega)
            have hE2 : Aside0 ((if seen.testBit u then none else alL n (sb seen u) (o.drop (k + 1))) = alL n 0 o) := ⟨by
              have h := hE.out
              rw [if_neg (by omega)] at h
              exact h⟩
            have hmc : wr.cell? ⟨w.heap.size, u, none⟩ = some (.bool (seen.testBit u)) := (blk_cell HI.met u).trans (tab_get u hu)
            have hmf : wr.frozen? ⟨w.heap.size, u, none⟩ = false := blk_frozen HI.met u
            clear hE
            cases htb : seen.testBit u with
            | true =>
              rw [htb] at hmc
              have HF : Aside0 (allF n o = false) := ⟨by rw [hAll.out, ← hE2.out, if_pos htb]; rfl⟩
              go_wp2
              go_ret
              exact ⟨by rw [HF.out]; rfl, HI.bel⟩
            | false =>
              rw [htb] at hmc
              have hE3 : Aside0 (alL n (sb seen u) (o.drop (k + 1)) = alL n 0 o) := ⟨by rw [← hE2.out, if_neg (by rw [htb]; simp)]⟩
              have HI2 : OrI w (wr.setCell ⟨w.heap.size, u, none⟩ (.bool true)) n w.heap.size (sb seen u) := ⟨by
                rw [blk_set HI.met u _, tab_set]
                congr 2
                refine tab_congr fun i _ => ?_
                rw [sb_bit]
                by_cases e : i = u
                · simp [e]
                · simp [e], HI.bel.setCell (Nat.le_refl _) _⟩
              have HZ := Aside0.mk HI2
              clear hE2 HI2
              go_wp2
              go_roundw
              case rel => exact ⟨k + 1, sb seen u, by omega, by go_num, hE3, HZ.out⟩
              case measure => simp [intOf]; omega
      · obtain rfl : k = o.length := by omega
        have HF : Aside0 (allF n o = true) := ⟨by rw [hAll.out, ← HA.out, List.drop_length]; rfl⟩
        go_wp2
        go_ret
        exact ⟨by rw [HF.out]; rfl, HI.bel⟩
  · have hlb : ((o.length : Int) != (n : Int)) = true := by rw [bne_iff_ne]; omega
    have HF : Aside0 (allF n o = false) := ⟨by unfold allF; rw [decide_eq_false (by omega), Bool.and_false]⟩
    go_enter Try.func52, Try.ntmps52
    go_wp2
    go_ret
    exact ⟨by rw [HF.out]; rfl, Below.refl _ _⟩
/-- What eliminating in an order shows, as the reference tells it. -/
def rplL (N : Nat) : (Nat → Nat) → Nat → Int → List (Int × Int) → List Int → Int × List (Int × Int)
  | _, _, w, f, [] => (w, f)
  | G, L, w, f, v :: r => rplL N (addL G (rfill G L N v.toNat)) (cb L v.toNat) (mx w ((nb G L N v.toNat).length : Int)) (f ++ rfill G L N v.toNat) r
def playedR (n : Int) (l : List (List Int)) (o : List Int) : Int × List (Int × Int) × Int :=
  if rightF n l && allF n o then ((rplL n.toNat (ofG l) (2 ^ n.toNat - 1) 0 [] o).1, (rplL n.toNat (ofG l) (2 ^ n.toNat - 1) 0 [] o).2, 0) else (0, [], 1)
structure WdI (w wr : World) (N gb A B : Nat) (R H : Nat → Nat) (L : Nat) : Prop where
  mat : Mat wr N w.heap.size A B R H L
  box : wr.heap[gb]? = some (gbox N A B)
  bel : Below w.heap.size w wr
theorem WdI.below {w wr w1 : World} {N gb A B : Nat} {R H : Nat → Nat} {L : Nat} (h : WdI w wr N gb A B R H L) (hb : Below wr.heap.size wr w1) : WdI w w1 N gb A B R H L :=
  ⟨h.mat.below hb, blk_below h.box hb, below_step h.bel hb⟩
theorem WdI.out {w wr w1 : World} {N gb A B : Nat} {R H H' : Nat → Nat} {L L' : Nat} (h : WdI w wr N gb A B R H L) (hm : Mat w1 N w.heap.size A B R H' L') (ho : OutK wr w1 N B R) : WdI w w1 N gb A B R H' L' :=
  ⟨hm, (ho.block gb (blk_lt h.box) (types_ne h.box h.mat.left (by decide)).1 (fun i hi => (types_ne h.box (h.mat.row i hi) (by decide)).1)).trans h.box, h.bel.trans (ho.below h.bel.size h.mat.baseB h.mat.baseR)⟩
theorem rplL_cons (N : Nat) (G : Nat → Nat) (L : Nat) (w : Int) (f : List (Int × Int)) (v : Nat) (r : List Int) : rplL N G L w f ((v : Int) :: r) = rplL N (addL G (rfill G L N v)) (cb L v) (mx w ((nb G L N v).length : Int)) (f ++ rfill G L N v) r := rfl
set_option maxHeartbeats 4000000 in
set_option maxRecDepth 100000 in
theorem rwidth_calls (n : Int) (A : Option Addr) (c : Nat) (l : List (List Int)) (Ao : Option Addr) (co : Nat) (o : List Int) (w : World) (hr : Kd.C kl w A l.length l) (hc : l.length ≤ c) (ho : Kd.C (Kd.int .i64) w Ao o.length o) :
    Calls Try.prog 27 #[.int .i64 n, .slice A l.length c, .slice Ao o.length co] w fun e w' => e = .returned (.tuple #[.int .i64 (playedR n l o).1, .int .i64 (playedR n l o).2.2]) ∧ Below w.heap.size w w' := by
  have hu61 := Try.underlying61
  have HC := Aside0.mk (rright_calls n A c l w hr)
  cases hR : rightF n l with
  | false =>
    have hE : playedR n l o = (0, [], 1) := by unfold playedR; rw [hR]; rfl
    rw [hR] at HC
    rw [hE]
    clear hr hR hE
    go_enter Try.func27, Try.ntmps27
    go_wp2_with fail
    refine HC.out.mono ?_
    rintro e w1 ⟨rfl, rfl⟩
    go_wp2
    go_ret2
    exact ⟨rfl, Below.refl _ _⟩
  | true =>
    have hT := rightF_true hR
    obtain ⟨N, rfl⟩ := Int.eq_ofNat_of_zero_le hT.1
    have hN : N ≤ 16 := by omega
    have hv : ∀ x ∈ l, ∀ v ∈ x, 0 ≤ v ∧ v < (N : Int) := fun x hx v hv => (hT.2.2.2 x hx).2 v hv
    rw [hR] at HC
    have HOr := Aside0.mk ho
    have HAll := ordered_calls N Ao co o w hN ho
    cases hA : allF N o with
    | false =>
      have hE : playedR N l o = (0, [], 1) := by unfold playedR; rw [hR, hA]; rfl
      rw [hE]
      rw [hA] at HAll
      have HA2 := Aside0.mk HAll
      clear hr hR hv hT hE ho HAll
      go_enter Try.func27, Try.ntmps27
      go_wp2_with fail
      refine HC.out.mono ?_
      rintro e w1 ⟨rfl, rfl⟩
      go_wp2_with fail
      refine HA2.out.mono ?_
      rintro e w2 ⟨rfl, hb⟩
      have HB := Aside0.mk hb
      clear hb
      go_wp2
      go_ret2
      exact ⟨rfl, HB.out⟩
    | true =>
      have hE : playedR N l o = ((rplL N (ofG l) (2 ^ N - 1) 0 [] o).1, (rplL N (ofG l) (2 ^ N - 1) 0 [] o).2, 0) := by unfold playedR; rw [hR, hA]; rfl
      have HAT := Aside0.mk (allF_true hA).2
      have hol : o.length ≤ 16 := by have := (allF_true hA).1; omega
      rw [hE]
      rw [hA] at HAll
      have HA2 := Aside0.mk HAll
      have HR := Aside0.mk hr
      have HV := Aside0.mk hv
      clear hr hR hv hT hE ho HAll hA
      go_enter Try.func27, Try.ntmps27
      go_wp2_with fail
      refine HC.out.mono ?_
      rintro e w1 ⟨rfl, rfl⟩
      go_wp2_with fail
      refine HA2.out.mono ?_
      rintro e w2 ⟨rfl, hb⟩
      have HB := Aside0.mk hb
      have HRf := Aside0.mk (rof_calls N A c l w2 (Kd.C_below HR.out hb) hc hN HV.out)
      clear hb HC HA2
      go_wp2_with fail
      refine HRf.out.mono ?_
      rintro e w3 ⟨A1, B1, R, rfl, hM, hb⟩
      have HI0 : WdI w1 (w3.alloc (gbox N A1 B1)) N w3.heap.size A1 B1 R (ofG l) (2 ^ N - 1) := ⟨(hM.lower HB.out.size).alloc _, blk_new w3 _, (below_step HB.out hb).alloc (Nat.le_trans HB.out.size hb.size) _⟩
      generalize hG : ofG l = G at *
      have HGe := Aside0.mk hG
      generalize hL : 2 ^ N - 1 = L at *
      have HLe := Aside0.mk hL
      clear hM hb hG hL HB HRf
      go_wp2
      go_loopw [9, 27] (fun s9 s27 wr => ∃ k : Nat, ∃ H : Nat → Nat, ∃ L' : Nat, ∃ wd : Int, ∃ f : List (Int × Int), k ≤ o.length ∧ s27 = .int .i64 (k : Int) ∧ s9 = .int .i64 wd ∧ Aside0 (rplL N H L' wd f (o.drop k) = rplL N G L 0 [] o) ∧ WdI w1 wr N w3.heap.size A1 B1 R H L') (fun _ s27 _ => (o.length - (intOf s27).toNat))
      case atStart => exact ⟨0, G, L, 0, [], by omega, rfl, rfl, ⟨rfl⟩, HI0⟩
      case round =>
        clear HI0
        obtain ⟨k, H, L', wd, f, hk, rfl, rfl, HE, HI⟩ := hrel
        by_cases hlt : k < o.length
        · have hkd : decide (k < o.length) = true := decide_eq_true hlt
          obtain ⟨ad, rfl, hx0⟩ := kn_at HOr.out k hlt
          have hx := pw_cell_below HI.bel hx0
          have hd := Aside0.mk (drop_getD 0 o k hlt)
          have hm := HAT.out _ (getD_mem 0 o k hlt)
          obtain ⟨v, hvv⟩ := Int.eq_ofNat_of_zero_le hm.1
          rw [hvv] at hx hd hm
          have hvN : v < N := by omega
          have hT : Aside0 (rplL N (addL H (rfill H L' N v)) (cb L' v) (mx wd ((nb H L' N v).length : Int)) (f ++ rfill H L' N v) (o.drop (k + 1)) = rplL N G L 0 [] o) := ⟨by rw [← HE.out, hd.out, rplL_cons]⟩
          obtain ⟨hb0, hb1⟩ := boxC HI.box
          have hmx := max2i wd ((nb H L' N v).length : Int)
          have HNb := Aside0.mk (nb_calls HI.mat hN v hvN)
          have hcall : gval N A1 B1 = .agg #[.slice (some ⟨A1, 0, none⟩) N N, .slice (some ⟨B1, 0, none⟩) N N] := rfl
          rw [hcall] at HNb
          clear hx0 hd hm HE
          go_wp2_with fail
          refine HNb.out.mono ?_
          rintro e w5 ⟨v5, rfl, hR5, hB5⟩
          obtain ⟨A5, c5, rfl, hc5, hC5⟩ := Kd.R_reads hR5
          have HI5 := HI.below hB5
          obtain ⟨hb0', hb1'⟩ := boxC HI5.box
          have HOu := Aside0.mk (out_calls HI5.mat hN v hvN)
          rw [hcall] at HOu
          clear HNb hR5 hB5 hC5 HI hx
          go_wp2_with fail
          refine HOu.out.mono ?_
          rintro e w6 ⟨rfl, hM6, hO6⟩
          have HI6 := HI5.out hM6 hO6
          clear HOu hM6 hO6 HI5 hcall
          go_wp2
          go_roundw
          case rel => exact ⟨k + 1, _, _, _, _, by omega, by go_num, rfl, hT, HI6⟩
          case measure => simp [intOf]; omega
        · obtain rfl : k = o.length := by omega
          have hend : Aside0 (rplL N G L 0 [] o = (wd, f)) := ⟨by rw [← HE.out, List.drop_length]; rfl⟩
          go_wp2
          go_ret2
          exact ⟨by rw [HGe.out, HLe.out, hend.out]; rfl, HI.bel⟩
theorem rfill_len (G : Nat → Nat) (L N v : Nat) (hN : N ≤ 16) : (rfill G L N v).length ≤ 256 := by
  have h1 : (nb G L N v).length ≤ N := nbA_len G L N v 0
  have h2 := rfA_len G (nb G L N v)
  have h3 : (nb G L N v).length * (nb G L N v).length ≤ 16 * 16 := Nat.mul_le_mul (by omega) (by omega)
  show (rfA G (nb G L N v)).length ≤ 256
  omega
structure RfI (w wr : World) (N gb A B : Nat) (R H : Nat → Nat) (L : Nat) (s : Value) (f : List (Int × Int)) : Prop where
  mat : Mat wr N w.heap.size A B R H L
  box : wr.heap[gb]? = some (gbox N A B)
  row : Kd.R kp 48 wr w.heap.size (fun _ => True) s f
  bel : Below w.heap.size w wr
theorem RfI.below {w wr w1 : World} {N gb A B : Nat} {R H : Nat → Nat} {L : Nat} {s : Value} {f : List (Int × Int)} (h : RfI w wr N gb A B R H L s f) (hb : Below wr.heap.size wr w1) : RfI w w1 N gb A B R H L s f :=
  ⟨h.mat.below hb, blk_below h.box hb, Kd.R_below h.row hb, below_step h.bel hb⟩
theorem RfI.out {w wr w1 : World} {N gb A B : Nat} {R H H' : Nat → Nat} {L L' : Nat} {s : Value} {f : List (Int × Int)} (h : RfI w wr N gb A B R H L s f) (hm : Mat w1 N w.heap.size A B R H' L') (ho : OutK wr w1 N B R) : RfI w w1 N gb A B R H' L' s f :=
  ⟨hm, (ho.block gb (blk_lt h.box) (types_ne h.box h.mat.left (by decide)).1 (fun i hi => (types_ne h.box (h.mat.row i hi) (by decide)).1)).trans h.box, R_out h.row h.mat ho kp_types4, h.bel.trans (ho.below h.bel.size h.mat.baseB h.mat.baseR)⟩
theorem RfI.push {w W w1 : World} {N gb A B : Nat} {R H : Nat → Nat} {L : Nat} {s v1 : Value} {f f2 : List (Int × Int)} (h : RfI w W N gb A B R H L s f) (ho : Kd.R kp 48 w1 w.heap.size (fun _ => True) v1 f2) (hb : Below w.heap.size w w1) (hg : W.grownBy w1 s.ownBlock) : RfI w w1 N gb A B R H L v1 f2 :=
  ⟨h.mat.grown hg (Kd.R_ne h.row h.mat.near (by decide)) (Kd.R_ne h.row h.mat.left (by decide)) (fun i hi => Kd.R_ne h.row (h.mat.row i hi) (by decide)),
   (hg.block _ (blk_lt h.box) (Kd.R_ne h.row h.box (by decide))).trans h.box, ho, hb⟩
set_option maxHeartbeats 4000000 in
set_option maxRecDepth 100000 in
theorem rfillall_calls (n : Int) (A : Option Addr) (c : Nat) (l : List (List Int)) (Ao : Option Addr) (co : Nat) (o : List Int) (w : World) (hr : Kd.C kl w A l.length l) (hc : l.length ≤ c) (ho : Kd.C (Kd.int .i64) w Ao o.length o) :
    Calls Try.prog 29 #[.int .i64 n, .slice A l.length c, .slice Ao o.length co] w fun e w' => ∃ v0, e = .returned (.tuple #[v0, .int .i64 (playedR n l o).2.2]) ∧ Kd.R kp 48 w' w.heap.size (fun _ => True) v0 (playedR n l o).2.1 ∧ Below w.heap.size w w' := by
  have hu61 := Try.underlying61
  have HC := Aside0.mk (rright_calls n A c l w hr)
  cases hR : rightF n l with
  | false =>
    have hE : playedR n l o = (0, [], 1) := by unfold playedR; rw [hR]; rfl
    rw [hR] at HC
    rw [hE]
    clear hr hR hE
    go_enter Try.func29, Try.ntmps29
    go_wp2_with fail
    refine HC.out.mono ?_
    rintro e w1 ⟨rfl, rfl⟩
    go_wp2
    go_ret2
    exact ⟨_, rfl, Kd.R_nil _ _ _ _ _, Below.refl _ _⟩
  | true =>
    have hT := rightF_true hR
    obtain ⟨N, rfl⟩ := Int.eq_ofNat_of_zero_le hT.1
    have hN : N ≤ 16 := by omega
    have hv : ∀ x ∈ l, ∀ v ∈ x, 0 ≤ v ∧ v < (N : Int) := fun x hx v hv => (hT.2.2.2 x hx).2 v hv
    rw [hR] at HC
    have HOr := Aside0.mk ho
    have HAll := ordered_calls N Ao co o w hN ho
    cases hA : allF N o with
    | false =>
      have hE : playedR N l o = (0, [], 1) := by unfold playedR; rw [hR, hA]; rfl
      rw [hE]
      rw [hA] at HAll
      have HA2 := Aside0.mk HAll
      clear hr hR hv hT hE ho HAll
      go_enter Try.func29, Try.ntmps29
      go_wp2_with fail
      refine HC.out.mono ?_
      rintro e w1 ⟨rfl, rfl⟩
      go_wp2_with fail
      refine HA2.out.mono ?_
      rintro e w2 ⟨rfl, hb⟩
      have HB := Aside0.mk hb
      clear hb
      go_wp2
      go_ret2
      exact ⟨_, rfl, Kd.R_nil _ _ _ _ _, HB.out⟩
    | true =>
      have hE : playedR N l o = ((rplL N (ofG l) (2 ^ N - 1) 0 [] o).1, (rplL N (ofG l) (2 ^ N - 1) 0 [] o).2, 0) := by unfold playedR; rw [hR, hA]; rfl
      have HAT := Aside0.mk (allF_true hA).2
      have hol : o.length ≤ 16 := by have := (allF_true hA).1; omega
      rw [hE]
      rw [hA] at HAll
      have HA2 := Aside0.mk HAll
      have HR := Aside0.mk hr
      have HV := Aside0.mk hv
      clear hr hR hv hT hE ho HAll hA
      go_enter Try.func29, Try.ntmps29
      go_wp2_with fail
      refine HC.out.mono ?_
      rintro e w1 ⟨rfl, rfl⟩
      go_wp2_with fail
      refine HA2.out.mono ?_
      rintro e w2 ⟨rfl, hb⟩
      have HB := Aside0.mk hb
      have HRf := Aside0.mk (rof_calls N A c l w2 (Kd.C_below HR.out hb) hc hN HV.out)
      clear hb HC HA2
      go_wp2_with fail
      refine HRf.out.mono ?_
      rintro e w3 ⟨A1, B1, R, rfl, hM, hb⟩
      have HI0 : RfI w1 (w3.alloc (gbox N A1 B1)) N w3.heap.size A1 B1 R (ofG l) (2 ^ N - 1) (.slice none 0 0) [] := ⟨(hM.lower HB.out.size).alloc _, blk_new w3 _, Kd.R_nil _ _ _ _ _, (below_step HB.out hb).alloc (Nat.le_trans HB.out.size hb.size) _⟩
      generalize hG : ofG l = G at *
      have HGe := Aside0.mk hG
      generalize hL : 2 ^ N - 1 = L at *
      have HLe := Aside0.mk hL
      clear hM hb hG hL HB HRf
      go_wp2
      go_loopw [9, 27] (fun s9 s27 wr => ∃ k : Nat, ∃ H : Nat → Nat, ∃ L' : Nat, ∃ wd : Int, ∃ f : List (Int × Int), k ≤ o.length ∧ s27 = .int .i64 (k : Int) ∧ Aside0 (rplL N H L' wd f (o.drop k) = rplL N G L 0 [] o) ∧ Aside0 (f.length ≤ 256 * k) ∧ RfI w1 wr N w3.heap.size A1 B1 R H L' s9 f) (fun _ s27 _ => (o.length - (intOf s27).toNat))
      case atStart => exact ⟨0, G, L, 0, [], by omega, rfl, ⟨rfl⟩, ⟨by simp⟩, HI0⟩
      case round =>
        clear HI0
        obtain ⟨k, H, L', wd, f, hk, rfl, HE, HFL, HI⟩ := hrel
        by_cases hlt : k < o.length
        · have hkd : decide (k < o.length) = true := decide_eq_true hlt
          obtain ⟨ad, rfl, hx0⟩ := kn_at HOr.out k hlt
          have hx := pw_cell_below HI.bel hx0
          have hd := Aside0.mk (drop_getD 0 o k hlt)
          have hm := HAT.out _ (getD_mem 0 o k hlt)
          obtain ⟨v, hvv⟩ := Int.eq_ofNat_of_zero_le hm.1
          rw [hvv] at hx hd hm
          have hvN : v < N := by omega
          have hT : Aside0 (rplL N (addL H (rfill H L' N v)) (cb L' v) (mx wd ((nb H L' N v).length : Int)) (f ++ rfill H L' N v) (o.drop (k + 1)) = rplL N G L 0 [] o) := ⟨by rw [← HE.out, hd.out, rplL_cons]⟩
          obtain ⟨hb0, hb1⟩ := boxC HI.box
          have hml := rfill_len H L' N v hN
          have HNb := Aside0.mk (rfill_calls HI.mat hN v hvN)
          have hcall : gval N A1 B1 = .agg #[.slice (some ⟨A1, 0, none⟩) N N, .slice (some ⟨B1, 0, none⟩) N N] := rfl
          rw [hcall] at HNb
          clear hx0 hd hm HE
          go_wp2_with fail
          refine HNb.out.mono ?_
          rintro e w5 ⟨v5, rfl, hR5, hB5⟩
          obtain ⟨A5, c5, rfl, hc5, hC5⟩ := Kd.R_reads hR5
          have HI5 := HI.below hB5
          have HFL2 : Aside0 ((f ++ rfill H L' N v).length ≤ 256 * (k + 1)) := ⟨by have := HFL.out; rw [List.length_append]; omega⟩
          have hfl : Aside0 (f.length ≤ 4096) := ⟨by have := HFL.out; omega⟩
          clear HNb hR5 hB5 HI hx
          go_wp2_with (at_builtin; refine Kd.R_append_rows kp (w0 := w1) w1.heap.size rfl (.tmp 31) (.tmp 34) 35 48 (.agg #[.int .i64 0, .int .i64 0]) 16 rfl Try.underlying35 info48 rfl (by decide) (by omega) _ f (rfill H L' N v) A5 _ c5 (fun _ => True) (fun _ => False) rfl rfl ?aO hC5 kp_move (fun _ hk => hk.elim) (fun _ _ => trivial) ?aB ?aS ?aL ?_; (case aO => exact HI5.row); (case aB => exact HI5.bel); (case aS => exact HI5.bel.size); (case aL => have := hfl.out; omega); intro v7 w7 ho7 hb7 hg7 hat7; have HI7 := HI5.push ho7 hb7 hg7; clear ho7 hb7 hg7 hat7 HI5 hC5; have hb0' := (boxC HI7.box).1; have hb1' := (boxC HI7.box).2; have HOu := Aside0.mk (out_calls HI7.mat hN v hvN); rw [hcall] at HOu)
          refine HOu.out.mono ?_
          rintro e w6 ⟨rfl, hM6, hO6⟩
          have HI6 := HI7.out hM6 hO6
          clear HOu hM6 hO6 HI7 hcall
          go_wp2
          go_roundw
          case rel => exact ⟨k + 1, _, _, _, _, by omega, by go_num, hT, HFL2, HI6⟩
          case measure => simp [intOf]; omega
        · obtain rfl : k = o.length := by omega
          have hend : Aside0 (rplL N G L 0 [] o = (wd, f)) := ⟨by rw [← HE.out, List.drop_length]; rfl⟩
          go_wp2
          go_ret2
          refine ⟨_, rfl, ?_, HI.bel⟩
          rw [HGe.out, HLe.out, hend.out]
          exact HI.row
end Go.Proofs.Ytnnaakinchophaa.Ord
