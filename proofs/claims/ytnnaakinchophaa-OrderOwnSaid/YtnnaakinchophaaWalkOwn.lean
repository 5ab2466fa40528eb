/- OrderOwn: no function modifies its scopes or its order; the law, walked; no condition. -/
import Derived.Test.YtnnaakinchophaaOrdJR
namespace Go.Proofs.Ytnnaakinchophaa.Ord
set_option linter.unusedVariables false
set_option linter.unusedSimpArgs false
open Go.RowKit Go.Proofs.YtnnaakinchophaaW.PrintWords Go.Proofs.YtnnaakinchophaaW.PrintLast Go.Proofs.YtnnaakinchophaaW.PrintMore
theorem same_l2 (l : List Int) (hl : l.length ≤ 150) : ∀ (d k i : Nat), i + d = l.length → d < k → XA.sortilegelaw27_same.l0 k l l (l.length : Int) (i : Int) = some true := by
  intro d
  induction d with
  | zero =>
    intro k i hi hk
    obtain ⟨k, rfl⟩ : ∃ m, k = m + 1 := ⟨k - 1, by omega⟩
    rw [XA.sortilegelaw27_same.l0, if_neg (by omega)]
  | succ d ih =>
    intro k i hi hk
    obtain ⟨k, rfl⟩ : ∃ m, k = m + 1 := ⟨k - 1, by omega⟩
    rw [XA.sortilegelaw27_same.l0, if_pos (by omega), if_pos (by omega), if_pos (by omega), if_pos (by omega), if_pos rfl, w64' (by omega) (by omega)]
    exact ih k (i + 1) (by omega) (by omega)
theorem same_calls2 (A0 : Option Addr) (c0 : Nat) (A1 : Option Addr) (c1 : Nat) (l : List Int) (w : World) (hr0 : Kd.C (Kd.int .i64) w A0 l.length l) (hc0 : l.length ≤ c0) (hr1 : Kd.C (Kd.int .i64) w A1 l.length l) (hc1 : l.length ≤ c1) (hl : l.length ≤ 150) :
    Calls Try.prog 17 #[.slice A0 l.length c0, .slice A1 l.length c1] w fun e w' => e = .returned (.bool true) ∧ ∃ m, w' = w.drewN m :=
  (XA.sortilegelaw27_same.calls 200 A0 c0 l A1 c1 l true w hr0 hc0 hr1 hc1 (by
    unfold XA.sortilegelaw27_same.f
    rw [if_pos rfl]
    exact same_l2 l hl l.length 200 0 (by omega) (by omega))).mono fun e w' h => ⟨h.1, h.2.out⟩
/-- What stands by while the functions run. -/
structure OwnC (w : World) (A1 Aw : Option Addr) (l : List (List Int)) (Ao Ax : Option Addr) (o x : List Int) : Prop where
  sc : Kd.C kl w A1 l.length l
  was : Kd.C kl w Aw l.length l
  giv : Kd.C (Kd.int .i64) w Ao o.length o
  own : Kd.C (Kd.int .i64) w Ax x.length x
theorem OwnC.low {w w1 : World} {A1 Aw : Option Addr} {l : List (List Int)} {Ao Ax : Option Addr} {o x : List Int} (h : OwnC w A1 Aw l Ao Ax o x) (hb : Below w.heap.size w w1) : OwnC w1 A1 Aw l Ao Ax o x :=
  ⟨Kd.C_below h.sc hb, Kd.C_below h.was hb, Kd.C_below h.giv hb, Kd.C_below h.own hb⟩
theorem own_blk {A : Option Addr} {n c k : Nat} (h : (Value.slice A n c).ownBlock = some k) : ∃ a, A = some a ∧ a.block = k := by
  cases A with
  | none => cases h
  | some a => exact ⟨a, rfl, by simpa [Value.ownBlock] using h⟩
set_option maxHeartbeats 4000000 in
set_option maxRecDepth 100000 in
theorem orderOwn_calls (n : Int) (A : Option Addr) (c : Nat) (l : List (List Int)) (Ao : Option Addr) (co : Nat) (o : List Int) (w : World) (hr : Kd.C kl w A l.length l) (hc : l.length ≤ c) (ho : Kd.C (Kd.int .i64) w Ao o.length o) (hco : o.length ≤ co) :
    Calls Try.prog 13 #[.int .i64 n, .slice A l.length c, .slice Ao o.length co] w fun e w' => e = .returned (.bool true) ∧ Below w.heap.size w w' := by
  have H0 := Aside0.mk (few_calls n A c l 8 w (by decide) (by decide) hr hc)
  have HFS := Aside0.mk (fun h => few_small (n := n) (M := 8) (l := fewL ((8 : Nat) : Int) l) (by decide) h)
  have hmaxo := Kd.C_max ho
  obtain ⟨p, hp⟩ : ∃ p : Nat, min o.length 100 = p := ⟨_, rfl⟩
  have hpl : p ≤ o.length := by omega
  have hp100 : p ≤ 100 := by omega
  have hpn : mn (o.length : Int) 100 = (p : Int) := by unfold mn; split <;> omega
  have hpn0 : (if 100 < (o.length : Int) then (100 : Int) else (o.length : Int)) = (p : Int) := hpn
  obtain ⟨i3, hi3, _⟩ := Option.map_eq_some_iff.1 info3
  have hcut := cut_to (P := Try.prog) 25 3 .i64 Try.underlying25 hi3 Ao o.length co (p : Int) (by omega) (by omega) hco
  rw [Int.toNat_natCast] at hcut
  have hlp : (o.take p).length = p := by rw [List.length_take]; omega
  have HLP := Aside0.mk hlp
  have hll : (fewL ((8 : Nat) : Int) l).length ≤ 1001 := by
    unfold fewL
    rw [List.length_map, List.length_take]
    omega
  have hlx : ∀ x ∈ fewL ((8 : Nat) : Int) l, x.length ≤ 101 := fun x hx => by
    unfold fewL at hx
    obtain ⟨y, _, rfl⟩ := List.mem_map.1 hx
    unfold fewX
    rw [List.length_map, List.length_take]
    omega
  have HO := Aside0.mk ho
  clear hr hc ho hpn hlp hp
  go_enter Try.func13, Try.ntmps13
  go_wp2_with fail
  refine H0.out.mono ?_
  rintro e w1 ⟨v1, rfl, hR1, hB1⟩
  clear H0
  obtain ⟨A1, c1, rfl, hc1, hC1⟩ := Kd.R_reads hR1
  generalize fewN n ((8 : Nat) : Int) = n1 at *
  generalize fewL ((8 : Nat) : Int) l = l1 at *
  have HB1 := Aside0.mk hB1
  have HC1 := Aside0.mk (And.intro hC1 (Kd.C_below HO.out hB1))
  have HLX := Aside0.mk hlx
  clear hR1 hB1 hC1 HO hlx
  go_wp2
  go_loopw [7, 21] (fun s7 s21 wr => ∃ k : Nat, k ≤ l1.length ∧ s21 = .int .i64 (k : Int) ∧ FewI w1 wr s7 (l1.take k)) (fun _ s21 _ => (l1.length - (intOf s21).toNat))
  case atStart => exact ⟨0, by omega, rfl, ⟨Kd.R_nil _ _ _ _ _, Below.refl _ _⟩⟩
  case round =>
    obtain ⟨k, hk, rfl, HI⟩ := hrel
    by_cases hlt : k < l1.length
    · have hkd : decide (k < l1.length) = true := decide_eq_true hlt
      obtain ⟨ad, A0, c0, hA1, hx0, hc0, hC0⟩ := kl_at HC1.out.1 k hlt
      have hx := pw_cell_below HI.bel hx0
      have htk : l1.take (k + 1) = l1.take k ++ [l1.getD k []] := by
        rw [List.take_add_one, List.getD_eq_getElem?_getD, List.getElem?_eq_getElem hlt]
        rfl
      have hxlen := HLX.out _ (getD_mem [] l1 k hlt)
      have hac : (l1.take k).length ≤ 1001 := by rw [List.length_take]; omega
      have HTK := Aside0.mk htk
      have hC0' := Kd.C_below hC0 HI.bel
      generalize l1.getD k [] = x at *
      generalize l1.take k = acc at *
      have hbR : Below wr.heap.size wr (wr.alloc (.cells #[] 3)) := (Below.refl _ _).alloc (Nat.le_refl _) _
      have hx3 : Kd.C (Kd.int .i64) (wr.alloc (.cells #[] 3)) A0 x.length x := Kd.C_below hC0' hbR
      have hI0 : Kd.R (Kd.int .i64) 3 (wr.alloc (.cells #[] 3)) wr.heap.size (fun _ => True) (.slice (some ⟨wr.heap.size, 0, none⟩) 0 0) [] := Kd.R_of_own (by
        have h := own_lit wr wr.heap.size 3 .i64 [] (Nat.le_refl _) (by decide)
        exact h) (fun _ _ => trivial)
      obtain ⟨A7s, c7s, rfl⟩ := Kd.R_slice HI.row
      subst hA1
      clear htk hC0 hC0' hx0
      go_wp2_with (first | (at_builtin; refine Kd.R_append_rows (Kd.int .i64) (w0 := wr) wr.heap.size rfl (.tmp 26) (.tmp 27) 25 3 (.int .i64 0) 8 rfl Try.underlying25 info3 rfl (by decide) (by omega) _ [] x A0 _ c0 (fun _ => True) (fun _ => False) rfl rfl ?aO hx3 (fun _ _ h => h) (fun _ hk => hk.elim) (fun _ _ => trivial) ?aB ?aS ?aL ?_; (case aO => exact hI0); (case aB => exact hbR); (case aS => exact hbR.size); (case aL => simp; omega); intro v7 w7 ho7 hb7 hg7 hat7; obtain ⟨A7, c7, rfl⟩ := Kd.R_slice ho7; have ho7' : Kd.R (Kd.int .i64) 3 w7 wr.heap.size (fun _ => True) (.slice A7 x.length c7) x := ho7; have hJ : FewJ w1 w7 (.slice A7s acc.length c7s) (.slice A7 x.length c7) acc x := ⟨Kd.R_mono (Kd.R_below (Kd.R_bound HI.row) hb7) (fun k hk => ⟨trivial, fun e => by have := Kd.R_base ho7 k e.symm; have := hk.2.2.1; omega⟩), Kd.R_lower ho7' HI.bel.size, below_step HI.bel hb7⟩; have hP := hJ.part) | (at_builtin; refine Kd.R_append kl (w0 := w1) w1.heap.size rfl (.tmp 25) (.tmp 29) 22 25 (.slice none 0 0) 24 rfl Try.underlying22 info25 rfl (by decide) (by omega) _ acc x [.slice A7 x.length c7] (fun _ => True) _ rfl rfl hP.1 hP.2 ?aF ?aO ?aB ?aS ?aL ?_; (case aF => exact (fun _ _ => trivial)); (case aO => exact Kd.R_mono hJ.row (fun _ _ => trivial)); (case aB => exact hJ.bel); (case aS => exact hJ.bel.size); (case aL => omega); intro v8 w8 ho8 hb8 hg8 hat8; have HI8 : FewI w1 w8 v8 (acc ++ [x]) := ⟨ho8, hb8⟩; rw [← HTK.out] at HI8))
      clear ho7 hb7 hg7 hat7 hJ hP ho8 hb8 hg8 hat8 hI0 hbR hx3 HI
      go_roundw
      case rel => exact ⟨k + 1, by omega, by go_num, HI8⟩
      case measure => simp [intOf]; omega
    · obtain rfl : k = l1.length := by omega
      rw [List.take_length] at HI
      obtain ⟨Aw, cw, rfl, hcw, hCw⟩ := Kd.R_reads HI.row
      have HCw := Aside0.mk hCw
      have HBw := Aside0.mk HI.bel
      have hbA : Below wr.heap.size wr (wr.alloc (.cells #[] 3)) := (Below.refl _ _).alloc (Nat.le_refl _) _
      have hI0 : Kd.R (Kd.int .i64) 3 (wr.alloc (.cells #[] 3)) wr.heap.size (fun _ => True) (.slice (some ⟨wr.heap.size, 0, none⟩) 0 0) [] := Kd.R_of_own (by
        have h := own_lit wr wr.heap.size 3 .i64 [] (Nat.le_refl _) (by decide)
        exact h) (fun _ _ => trivial)
      have hgv := Kd.C_below HC1.out.2 HI.bel
      have hgt := Kd.C_take (m := p) (Kd.C_below hgv hbA) hpl
      rw [HLP.out] at hgt
      have HGV := Aside0.mk hgv
      generalize hop : o.take p = op at *
      have HOP := Aside0.mk hop
      have hopl : op.length ≤ 100 := by have := HLP.out; omega
      clear hCw hgv hop HI
      go_wp2_with (at_builtin; refine Kd.R_append_rows (Kd.int .i64) (w0 := wr) wr.heap.size rfl (.tmp 32) (.tmp 37) 25 3 (.int .i64 0) 8 rfl Try.underlying25 info3 rfl (by decide) (by omega) _ [] op Ao _ co (fun _ => True) (fun _ => False) rfl rfl ?aO hgt (fun _ _ h => h) (fun _ hk => hk.elim) (fun _ _ => trivial) ?aB ?aS ?aL ?_; (case aO => exact hI0); (case aB => exact hbA); (case aS => exact hbA.size); (case aL => simp; omega); intro v7 w7 ho7 hb7 hg7 hat7; obtain ⟨Ax, cx, rfl, hcx, hCx⟩ := Kd.R_reads ho7)
      have ho7' : Kd.C (Kd.int .i64) w7 Ax op.length op := hCx
      have hO7 : OwnC w7 A1 Aw l1 Ao Ax o op := ⟨Kd.C_below HC1.out.1 (HBw.out.trans (hb7.mono HBw.out.size)), Kd.C_below HCw.out hb7, Kd.C_below HGV.out hb7, ho7'⟩
      have HO7 := Aside0.mk hO7
      have HB7 := Aside0.mk (below_step HB1.out (below_step HBw.out hb7))
      clear ho7 hb7 hg7 hat7 hCx ho7' hO7 hI0 hbA hgt hcut hpn0
      refine (right_calls n1 A1 c1 l1 w7 HO7.out.sc hc1).mono ?_
      rintro e wa ⟨rfl, hb⟩
      have HOa := Aside0.mk (HO7.out.low hb)
      have HBa := Aside0.mk (below_step HB7.out hb)
      clear hb HO7 HB7
      go_wp2_with fail
      refine (edges_calls n1 A1 c1 l1 wa HOa.out.sc hc1).mono ?_
      rintro e wb ⟨vb, rfl, -, hb⟩
      have HOb := Aside0.mk (HOa.out.low hb)
      have HBb := Aside0.mk (below_step HBa.out hb)
      clear hb HOa HBa
      go_wp2_with fail
      refine (width_calls n1 A1 c1 l1 Ax cx op wb HOb.out.sc hc1 HOb.out.own).mono ?_
      rintro e wc ⟨rfl, hb⟩
      have HOc := Aside0.mk (HOb.out.low hb)
      have HBc := Aside0.mk (below_step HBb.out hb)
      clear hb HOb HBb
      go_wp2_with fail
      refine (fill_calls n1 A1 c1 l1 Ax cx op wc HOc.out.sc hc1 HOc.out.own).mono ?_
      rintro e wd ⟨vd, rfl, -, hb⟩
      have HOd := Aside0.mk (HOc.out.low hb)
      have HBd := Aside0.mk (below_step HBc.out hb)
      clear hb HOc HBc
      go_wp2_with fail
      refine (minDegree_calls n1 A1 c1 l1 wd HOd.out.sc hc1).mono ?_
      rintro e we ⟨ve, rfl, -, hb⟩
      have HOe := Aside0.mk (HOd.out.low hb)
      have HBe := Aside0.mk (below_step HBd.out hb)
      clear hb HOd HBd
      go_wp2_with fail
      refine (minFill_calls n1 A1 c1 l1 we HOe.out.sc hc1).mono ?_
      rintro e wf ⟨vf, rfl, -, hb⟩
      have HOf := Aside0.mk (HOe.out.low hb)
      have HBf := Aside0.mk (below_step HBe.out hb)
      clear hb HOe HBe
      obtain ⟨r1, r2, r3, hbest⟩ : ∃ r1 r2 r3, bestF n1 l1 = some (r1, r2, r3) := by
        cases hR : rightF n1 l1 with
        | false => exact ⟨[], 0, 1, by unfold bestF; rw [hR]; rfl⟩
        | true =>
          obtain ⟨N, rfl, hN⟩ := HFS.out hR
          exact ⟨_, _, _, best_least (show N ≤ 10 by omega) hR⟩
      go_wp2_with fail
      refine (best_all n1 A1 c1 l1 r1 r2 r3 wf HOf.out.sc hc1 hbest).mono ?_
      rintro e wg ⟨vg, rfl, -, hb⟩
      have HOg := Aside0.mk (HOf.out.low hb)
      have HBg := Aside0.mk (below_step HBf.out hb)
      clear hb HOf HBf hbest HFS
      go_wp2_with fail
      refine (lower_calls n1 A1 c1 l1 wg HOg.out.sc hc1).mono ?_
      rintro e wh ⟨rfl, hb⟩
      have HOh := Aside0.mk (HOg.out.low hb)
      have HBh := Aside0.mk (below_step HBg.out hb)
      clear hb HOg HBg
      go_wp2_with fail
      refine (chordal_calls n1 A1 c1 l1 wh HOh.out.sc hc1).mono ?_
      rintro e wi ⟨rfl, hb⟩
      have HOi := Aside0.mk (HOh.out.low hb)
      have HBi := Aside0.mk (below_step HBh.out hb)
      clear hb HOh HBh
      go_wp2
      go_loopw [70] (fun s70 wr => ∃ k : Nat, k ≤ op.length ∧ s70 = .int .i64 (k : Int) ∧ Aside0 (OwnC wr A1 Aw l1 Ao Ax o op) ∧ Aside0 (Below w.heap.size w wr)) (fun s70 _ => (op.length - (intOf s70).toNat))
      case atStart => exact ⟨0, by omega, rfl, HOi, HBi⟩
      case round =>
        clear HOi HBi
        obtain ⟨k, hk, rfl, HOi, HBi⟩ := hrel
        by_cases hlt : k < op.length
        · have hkd : decide (k < op.length) = true := decide_eq_true hlt
          have hko : k < o.length := by have := HLP.out; omega
          obtain ⟨ad, had, hx⟩ := kn_at HOi.out.own k hlt
          obtain ⟨ad2, had2, hy⟩ := kn_at HOi.out.giv k hko
          have he : o.getD k 0 = op.getD k 0 := by
            rw [← HOP.out, List.getD_eq_getElem?_getD, List.getD_eq_getElem?_getD, List.getElem?_take, if_pos (by have := HLP.out; omega)]
          rw [he] at hy
          generalize op.getD k 0 = x at *
          subst had; subst had2
          have hne : (x != x) = false := by simp
          have hk1 : (k : Int) < (op.length : Int) := by omega
          have hk2 : (k : Int) < (o.length : Int) := by omega
          clear he
          go_wp2
          go_quiet (fail)
          have HOj := Aside0.mk (HOi.out.low (pw_below_drewN (Below.refl _ _) nq))
          have HBj := Aside0.mk (pw_below_drewN HBi.out nq)
          go_wp2
          go_roundw
          case rel => exact ⟨k + 1, by omega, by go_num, HOj, HBj⟩
          case measure => simp [intOf]; omega
        · obtain rfl : k = op.length := by omega
          go_wp2
          go_loopw [85] (fun s85 wr => ∃ k : Nat, k ≤ l1.length ∧ s85 = .int .i64 (k : Int) ∧ Aside0 (OwnC wr A1 Aw l1 Ao Ax o op) ∧ Aside0 (Below w.heap.size w wr)) (fun s85 _ => (l1.length - (intOf s85).toNat))
          case atStart => exact ⟨0, by omega, rfl, HOi, HBi⟩
          case round =>
            clear HOi HBi
            obtain ⟨k, hk, rfl, HOi, HBi⟩ := hrel
            by_cases hlt : k < l1.length
            · have hkd : decide (k < l1.length) = true := decide_eq_true hlt
              obtain ⟨ad, A0, c0, hA1, hx0, hc0, hC0⟩ := kl_at HOi.out.sc k hlt
              obtain ⟨ad2, A2, c2, hA2, hx2, hc2, hC2⟩ := kl_at HOi.out.was k hlt
              have hxl := HLX.out _ (getD_mem [] l1 k hlt)
              generalize l1.getD k [] = x at *
              subst hA1; subst hA2
              have HS := Aside0.mk (fun m => same_calls2 A0 c0 A2 c2 x (wr.drewN m) (Kd.C_drewN hC0 m) hc0 (Kd.C_drewN hC2 m) hc2 (by omega))
              have hk1 : (k : Int) < (l1.length : Int) := by omega
              clear hC0 hC2
              go_wp2
              go_quiet (first | (go_at_call 17; exact Calls.quiet_of (HS.out _)))
              have HOj := Aside0.mk (HOi.out.low (pw_below_drewN (Below.refl _ _) nq))
              have HBj := Aside0.mk (pw_below_drewN HBi.out nq)
              go_wp2
              go_roundw
              case rel => exact ⟨k + 1, by omega, by go_num, HOj, HBj⟩
              case measure => simp [intOf]; omega
            · obtain rfl : k = l1.length := by omega
              have H9 := Aside0.mk (alive_calls wr)
              go_wp2_with fail
              refine H9.out.mono ?_
              rintro e wz ⟨rfl, hb⟩
              have HBz := Aside0.mk (below_step HBi.out hb)
              clear hb
              go_wp2
              go_ret
              exact ⟨rfl, HBz.out⟩
end Go.Proofs.Ytnnaakinchophaa.Ord
