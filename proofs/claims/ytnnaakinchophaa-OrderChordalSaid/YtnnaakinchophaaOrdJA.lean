/- The laws' own among and free, walked; conditions as written. -/
import Derived.Test.YtnnaakinchophaaOrdXZ
namespace Go.Proofs.Ytnnaakinchophaa.Ord
set_option linter.unusedVariables false
set_option linter.unusedSimpArgs false
open Go.RowKit Go.Proofs.YtnnaakinchophaaW.PrintWords Go.Proofs.YtnnaakinchophaaW.PrintLast Go.Proofs.YtnnaakinchophaaW.PrintMore
theorem wp_bare {P : Program} (o : Oper) (a : Act) (W : World) (K : Act → World → Prop) (Q : Exit → Act → World → Prop) : Oper.wp P { o with guard := none } a W K Q = Oper.wp P o a W K Q := by
  cases o
  rfl
theorem asks_bare {P : Program} (o : Oper) (a : Act) (W : World) : Oper.asks P { o with guard := none } a W = Oper.asks P o a W := by
  cases o
  rfl
/-- A guarded operation that is wanted is walked as one without a guard. -/
theorem guard_ {P : Program} {ops : Array Oper} {rest : List Oper} {o : Oper} {a : Act} {Q : Exit → Act → World → Prop} {W : World} (hw : Region.wanted o (yielded ops a.tmps) = true) (h : wpList P ops Q ({ o with guard := none } :: rest) a W) : wpList P ops Q (o :: rest) a W := by
  unfold wpList at h ⊢
  have h0 : Region.wanted { o with guard := none } (yielded ops a.tmps) = true := rfl
  rw [if_pos h0, wp_bare, asks_bare] at h
  rw [if_pos hw]
  exact h
set_option maxHeartbeats 1000000 in
theorem among_calls (A : Option Addr) (c : Nat) (xs : List Int) (x : Int) (w : World) (hr : Kd.C (Kd.int .i64) w A xs.length xs) :
    Calls Try.prog 46 #[.slice A xs.length c, .int .i64 x] w fun e w' => e = .returned (.bool (xs.any fun y => y == x)) ∧ w' = w := by
  have hmax := Kd.C_max hr
  have HR := Aside0.mk hr
  clear hr
  go_enter Try.func46, Try.ntmps46
  go_wp2
  go_loopw [9] (fun s9 wr => ∃ k : Nat, k ≤ xs.length ∧ s9 = .int .i64 (k : Int) ∧ Aside0 (∀ j, j < k → (xs.getD j 0 == x) = false) ∧ wr = w) (fun s9 _ => (xs.length - (intOf s9).toNat))
  case atStart => exact ⟨0, by omega, rfl, ⟨fun j hj => absurd hj (by omega)⟩, rfl⟩
  case round =>
    obtain ⟨k, hk, rfl, HA, rfl⟩ := hrel
    by_cases hlt : k < xs.length
    · obtain ⟨ad, rfl, hx⟩ := kn_at HR.out k hlt
      obtain ⟨z, hz⟩ : ∃ z, xs.getD k 0 = z := ⟨_, rfl⟩
      have hmem := getD_mem 0 xs k hlt
      rw [hz] at hx hmem
      have HZ := Aside0.mk hz
      have HM := Aside0.mk hmem
      clear hz hmem
      cases hq : (z == x) with
      | true =>
        have HI : Aside0 ((xs.any fun y => y == x) = true) := ⟨List.any_eq_true.2 ⟨z, HM.out, hq⟩⟩
        go_wp2
        go_ret
        exact ⟨by rw [HI.out]; rfl, rfl⟩
      | false =>
        have HN : Aside0 (∀ j, j < k + 1 → (xs.getD j 0 == x) = false) := ⟨fun j hj => by
          rcases Nat.lt_or_ge j k with h | h
          · exact HA.out j h
          · obtain rfl : j = k := by omega
            rw [HZ.out]; exact hq⟩
        go_wp2
        go_roundw
        case rel => exact ⟨k + 1, by omega, by go_num, HN, trivial⟩
        case measure => simp [intOf]; omega
    · obtain rfl : k = xs.length := by omega
      have HI : Aside0 ((xs.any fun y => y == x) = false) := ⟨List.any_eq_false.2 (fun y hy => by
        obtain ⟨j, hj, rfl⟩ := List.getElem_of_mem hy
        have := HA.out j hj
        rw [List.getD_eq_getElem?_getD, List.getElem?_eq_getElem hj] at this
        simp at this
        simp [this])⟩
      go_wp2
      go_ret
      exact ⟨by rw [HI.out]; rfl, rfl⟩
/-- What free says: some order that begins so has no fill. -/
def freeF (n : Int) (l : List (List Int)) : Nat → List Int → Bool
  | 0, x => decide ((playedR n l x).2.1.length = 0)
  | m + 1, x => (List.range n.toNat).any fun v => !(x.any fun y => y == (v : Int)) && freeF n l m (x ++ [(v : Int)])
theorem int_read (x : Int) (cs : List Value) (W : World) (base : Nat) (h : (Kd.int .i64).K W x cs) : (Kd.int .i64).M W base (fun _ => False) x cs := h
set_option maxHeartbeats 4000000 in
set_option maxRecDepth 100000 in
theorem free_calls (N : Nat) (hN : N ≤ 16) (A : Option Addr) (c : Nat) (l : List (List Int)) (hc : l.length ≤ c) : ∀ (m : Nat) (x : List Int) (A2 : Option Addr) (c2 : Nat) (w : World), x.length + m = N → Kd.C kl w A l.length l → Kd.C (Kd.int .i64) w A2 x.length x →
    Calls Try.prog 35 #[.int .i64 (N : Int), .slice A l.length c, .slice A2 x.length c2] w fun e w' => e = .returned (.bool (freeF (N : Int) l m x)) ∧ Below w.heap.size w w' := by
  intro m
  induction m with
  | zero =>
    intro x A2 c2 w hx hr hx2
    have hxl : (((x.length : Nat) : Int) == (N : Int)) = true := by rw [beq_iff_eq]; omega
    have H1 := Aside0.mk (rfillall_calls N A c l A2 c2 x w hr hc hx2)
    clear hr hx2
    show Calls _ _ _ _ fun e w' => e = .returned (.bool (decide ((playedR (N : Int) l x).2.1.length = 0))) ∧ _
    obtain ⟨P, hP⟩ : ∃ P, playedR (N : Int) l x = P := ⟨_, rfl⟩
    rw [hP] at H1 ⊢
    clear hP hx
    obtain ⟨P1, P2, P3⟩ := P
    have hz : (((P2.length : Nat) : Int) == 0) = decide (P2.length = 0) := by
      rw [Bool.eq_iff_iff, beq_iff_eq, decide_eq_true_eq]
      omega
    have HZ := Aside0.mk hz
    clear hz
    go_enter Try.func35, Try.ntmps35
    go_wp2_with fail
    refine H1.out.mono ?_
    rintro e w1 ⟨v1, rfl, hR1, hB1⟩
    obtain ⟨a1, c1, rfl, -, -⟩ := Kd.R_reads hR1
    have HB := Aside0.mk hB1
    clear hR1 hB1 H1
    go_wp2
    go_ret
    exact ⟨by first | rfl | (rw [← HZ.out]; rfl), HB.out⟩
  | succ m ih =>
    intro x A2 c2 w hx hr hx2
    have hxl : (((x.length : Nat) : Int) == (N : Int)) = false := beq_eq_false_iff_ne.2 (by omega)
    have HR := Aside0.mk hr
    have HX := Aside0.mk hx2
    have HIH := Aside0.mk ih
    have hxN : x.length < N := by omega
    have HXl := Aside0.mk hx
    have hfr : freeF (N : Int) l (m + 1) x = ((List.range' 0 (N - 0)).any fun v => !(x.any fun y => y == (v : Int)) && freeF (N : Int) l m (x ++ [(v : Int)])) := by
      show ((List.range (N : Int).toNat).any _) = _
      rw [Int.toNat_natCast, List.range_eq_range']
      rfl
    rw [hfr]
    generalize hg : (fun v : Nat => !(x.any fun y => y == (v : Int)) && freeF (N : Int) l m (x ++ [(v : Int)])) = g at *
    have HG := Aside0.mk hg
    generalize hfin : (List.range' 0 (N - 0)).any g = fin at *
    have HF := Aside0.mk hfin
    clear hr hx2 ih hx hfr hg hfin
    go_enter Try.func35, Try.ntmps35
    go_wp2
    go_loopw [9] (fun s9 wr => ∃ k : Nat, k ≤ N ∧ s9 = .int .i64 (k : Int) ∧ Aside0 ((List.range' k (N - k)).any g = fin) ∧ Aside0 (Below w.heap.size w wr)) (fun s9 _ => (N - (intOf s9).toNat))
    case atStart => exact ⟨0, by omega, rfl, HF, ⟨Below.refl _ _⟩⟩
    case round =>
      obtain ⟨k, hk, rfl, HA, HB⟩ := hrel
      by_cases hlt : k < N
      · have hkd : decide (k < N) = true := decide_eq_true hlt
        have hx1 := Kd.C_below HX.out HB.out
        have hr1 := Kd.C_below HR.out HB.out
        have H2 := Aside0.mk (among_calls A2 c2 x (k : Int) wr hx1)
        have hstep : (g k || (List.range' (k + 1) (N - (k + 1))).any g) = fin := by
          rw [← HA.out, show N - k = (N - (k + 1)) + 1 by omega, List.range'_succ, List.any_cons]
        have hgk : g k = (!(x.any fun y => y == (k : Int)) && freeF (N : Int) l m (x ++ [(k : Int)])) := by rw [← HG.out]
        have HC := Aside0.mk (And.intro hr1 hx1)
        cases hm : (x.any fun y => y == (k : Int)) with
        | true =>
          rw [hm] at H2 hgk
          have hT : Aside0 ((List.range' (k + 1) (N - (k + 1))).any g = fin) := ⟨by rw [← hstep, hgk]; rfl⟩
          clear hx1 hr1 hstep hgk hm
          go_wp2_with (go_at_call 46; refine H2.out.mono ?_; rintro e w' ⟨rfl, rfl⟩)
          go_roundw
          case rel => exact ⟨k + 1, by omega, by go_num, hT, HB⟩
          case measure => simp [intOf]; omega
        | false =>
          rw [hm] at H2 hgk
          have hgk2 : Aside0 (g k = freeF (N : Int) l m (x ++ [(k : Int)])) := ⟨by rw [hgk]; rfl⟩
          have HST := Aside0.mk hstep
          clear hr1 hstep hgk hm
          have hbA : Below w.heap.size w (wr.alloc (.cells #[] 3)) := HB.out.alloc HB.out.size _
          have hx3 : Kd.C (Kd.int .i64) (wr.alloc (.cells #[] 3)) A2 x.length x := Kd.C_below hx1 ((Below.refl _ _).alloc (Nat.le_refl _) _)
          have hI0 : Kd.R (Kd.int .i64) 3 (wr.alloc (.cells #[] 3)) w.heap.size (fun _ => True) (.slice (some ⟨wr.heap.size, 0, none⟩) 0 0) [] := Kd.R_of_own (by
            have h := own_lit wr w.heap.size 3 .i64 [] HB.out.size (by decide)
            exact h) (fun _ _ => trivial)
          clear hx1
          have hxa : x.length ≤ 16 := by omega
          go_wp2_with (first | (go_at_call 46; refine H2.out.mono ?_; rintro e w' ⟨rfl, rfl⟩) | (at_builtin; refine guard_ (by rfl) ?_; refine Kd.R_append_rows (Kd.int .i64) (w0 := w) w.heap.size rfl (.tmp 36) (.tmp 37) 25 3 (.int .i64 0) 8 rfl Try.underlying25 info3 rfl (by decide) (by omega) _ [] x A2 _ c2 (fun _ => True) (fun _ => False) rfl rfl ?aO hx3 (fun _ _ h => h) (fun _ hk => hk.elim) (fun _ _ => trivial) ?aB ?aS ?aL ?_; (case aO => exact hI0); (case aB => exact hbA); (case aS => exact hbA.size); (case aL => simp; omega); intro v7 w7 ho7 hb7 hg7 hat7; obtain ⟨A7, c7, rfl⟩ := Kd.R_slice ho7) | (at_builtin; refine guard_ (by rfl) ?_; refine Kd.R_append (Kd.int .i64) (w0 := w) w.heap.size rfl (.tmp 38) (.tmp 40) 25 3 (.int .i64 0) 8 rfl Try.underlying25 info3 rfl (by decide) (by omega) _ ([] ++ x) (k : Int) [.int .i64 (k : Int)] (fun _ => True) (fun _ => False) rfl rfl ?aP (fun _ hk => hk.elim) ?aF ?aO ?aB ?aS ?aL ?_; (case aP => exact rfl); (case aF => exact (fun _ _ => trivial)); (case aO => exact ho7); (case aB => exact hb7); (case aS => exact hb7.size); (case aL => simp; omega); intro v8 w8 ho8 hb8 hg8 hat8))
          obtain ⟨A8, c8, rfl, hc8, hC8⟩ := Kd.R_reads ho8
          have HB8 := Aside0.mk hb8
          have H9 := Aside0.mk (HIH.out (x ++ [(k : Int)]) A8 c8 w8 (by have := HXl.out; rw [List.length_append]; simp; omega) (Kd.C_below HR.out hb8) hC8)
          clear ho7 hb7 hg7 hat7 ho8 hb8 hg8 hat8 hI0 hbA hx3 H2 hC8
          refine H9.out.mono ?_
          rintro e w9 ⟨rfl, hb9⟩
          have HB9 := Aside0.mk (below_step HB8.out hb9)
          clear hb9 H9 HB8
          cases hb : freeF (N : Int) l m (x ++ [(k : Int)]) with
          | true =>
            have hfin : Aside0 (true = fin) := ⟨by rw [← HST.out, hgk2.out, hb]; rfl⟩
            go_wp2
            go_ret
            exact ⟨by rw [← hfin.out]; rfl, HB9.out⟩
          | false =>
            have hT : Aside0 ((List.range' (k + 1) (N - (k + 1))).any g = fin) := ⟨by rw [← HST.out, hgk2.out, hb]; rfl⟩
            go_wp2
            go_roundw
            case rel => exact ⟨k + 1, by omega, by go_num, hT, HB9⟩
            case measure => simp [intOf]; omega
      · obtain rfl : k = N := by omega
        have hfin : Aside0 (false = fin) := ⟨by rw [← HA.out, Nat.sub_self]; rfl⟩
        go_wp2
        go_ret
        exact ⟨by rw [← hfin.out]; rfl, HB.out⟩
end Go.Proofs.Ytnnaakinchophaa.Ord
