/- The reference's greedy, walked; conditions as written. -/
import Derived.Test.YtnnaakinchophaaOrdXZ
import Derived.Deep.CutRange
import Derived.Deep.DeepCutAuto
import Derived.BigQuiet
namespace Go.Proofs.Ytnnaakinchophaa.Ord
section
set_option linter.unusedVariables false
set_option linter.unusedSimpArgs false
open Go.RowKit Go.Proofs.YtnnaakinchophaaW.PrintWords Go.Proofs.YtnnaakinchophaaW.PrintLast Go.Proofs.YtnnaakinchophaaW.PrintMore
/-- What the reference's cost says. -/
def rcF (b : Bool) (G : Nat → Nat) (L N v : Nat) : Int := if b then ((rfill G L N v).length : Int) else ((nb G L N v).length : Int)
def rgS (b : Bool) (G : Nat → Nat) (L N : Nat) (best : Int) (v : Nat) : Int := if L.testBit v then (if best < 0 ∨ rcF b G L N v < rcF b G L N best.toNat then (v : Int) else best) else best
def rgI (b : Bool) (N : Nat) (G : Nat → Nat) (L v : Nat) (best : Int) : Int := (List.range' v (N - v)).foldl (rgS b G L N) best
def rgL (b : Bool) (N : Nat) : Nat → (Nat → Nat) → Nat → List Int → List Int
  | 0, _, _, out => out
  | m + 1, G, L, out => rgL b N m (addL G (rfill G L N (rgI b N G L 0 (-1)).toNat)) (cb L (rgI b N G L 0 (-1)).toNat) (out ++ [rgI b N G L 0 (-1)])
def rgreedyF (b : Bool) (n : Int) (l : List (List Int)) : List Int × Int := if rightF n l then (rgL b n.toNat n.toNat (ofG l) (2 ^ n.toNat - 1) [], 0) else ([], 1)
theorem rgI_end (b : Bool) (N : Nat) (G : Nat → Nat) (L : Nat) (s : Int) : rgI b N G L N s = s := by simp [rgI]
theorem rgI_step (b : Bool) (N : Nat) (G : Nat → Nat) (L v : Nat) (s : Int) (h : v < N) : rgI b N G L v s = rgI b N G L (v + 1) (rgS b G L N s v) := by
  unfold rgI
  rw [show N - v = (N - (v + 1)) + 1 by omega, List.range'_succ, List.foldl_cons]
def rgT (b : Bool) (G : Nat → Nat) (L N : Nat) (best : Int) (v : Nat) : Bool := L.testBit v && (decide (best < 0) || decide (rcF b G L N v < rcF b G L N best.toNat))
theorem rgS_eq (b : Bool) (G : Nat → Nat) (L N : Nat) (best : Int) (v : Nat) : rgS b G L N best v = if rgT b G L N best v = true then (v : Int) else best := by
  unfold rgS rgT
  cases L.testBit v with
  | false => rfl
  | true => simp
structure RgI (w wr : World) (N gb A B : Nat) (R H : Nat → Nat) (L : Nat) (s : Value) (out : List Int) : Prop where
  mat : Mat wr N w.heap.size A B R H L
  box : wr.heap[gb]? = some (gbox N A B)
  row : Kd.R (Kd.int .i64) 3 wr w.heap.size (fun _ => True) s out
  bel : Below w.heap.size w wr
theorem RgI.below {w wr w1 : World} {N gb A B : Nat} {R H : Nat → Nat} {L : Nat} {s : Value} {f : List Int} (h : RgI w wr N gb A B R H L s f) (hb : Below wr.heap.size wr w1) : RgI w w1 N gb A B R H L s f :=
  ⟨h.mat.below hb, blk_below h.box hb, Kd.R_below h.row hb, below_step h.bel hb⟩
theorem RgI.drewN {w wr : World} {N gb A B : Nat} {R H : Nat → Nat} {L : Nat} {s : Value} {f : List Int} (h : RgI w wr N gb A B R H L s f) (m : Nat) : RgI w (wr.drewN m) N gb A B R H L s f := h.below (pw_below_drewN (Below.refl _ _) m)
theorem int_types4 : ∀ q, q ∈ 3 :: (Kd.int .i64).E → q ≠ 4 := by
  intro q hq
  have : q = 3 := by simpa [Kd.int, Kd.scalar] using hq
  omega
theorem RgI.out {w wr w1 : World} {N gb A B : Nat} {R H H' : Nat → Nat} {L L' : Nat} {s : Value} {f : List Int} (h : RgI w wr N gb A B R H L s f) (hm : Mat w1 N w.heap.size A B R H' L') (ho : OutK wr w1 N B R) : RgI w w1 N gb A B R H' L' s f :=
  ⟨hm, (ho.block gb (blk_lt h.box) (types_ne h.box h.mat.left (by decide)).1 (fun i hi => (types_ne h.box (h.mat.row i hi) (by decide)).1)).trans h.box, R_out h.row h.mat ho int_types4, h.bel.trans (ho.below h.bel.size h.mat.baseB h.mat.baseR)⟩
theorem RgI.push {w W w1 : World} {N gb A B : Nat} {R H : Nat → Nat} {L : Nat} {s v1 : Value} {f f2 : List Int} (h : RgI w W N gb A B R H L s f) (ho : Kd.R (Kd.int .i64) 3 w1 w.heap.size (fun _ => True) v1 f2) (hb : Below w.heap.size w w1) (hg : W.grownBy w1 s.ownBlock) : RgI w w1 N gb A B R H L v1 f2 :=
  ⟨h.mat.grown hg (Kd.R_ne h.row h.mat.near (by decide)) (Kd.R_ne h.row h.mat.left (by decide)) (fun i hi => Kd.R_ne h.row (h.mat.row i hi) (by decide)),
   (hg.block _ (blk_lt h.box) (Kd.R_ne h.row h.box (by decide))).trans h.box, ho, hb⟩
def r56.T11 : Bool × List (List Nat × List Nat) := (true, [([], []), ([0], [0]), ([], []), ([1, 2], [1, 2]), ([3], [3]), ([4], [4]), ([5], [5]), ([6, 5], [5, 6]), ([7, 5, 5], [5, 7]), ([8], [8]), ([8], [8]), ([8], [8]), ([9, 10, 11, 8, 8], [8, 9, 10, 11]), ([8], [8]), ([8], [8]), ([8], [8]), ([13, 14, 15, 12, 8], [8, 13, 14, 15]), ([12, 16, 8], [8, 12, 16]), ([8, 17, 5], [5, 8, 17]), ([5, 18], [5, 18])])
def r56.B11 : List Nat := [0, 1, 0, 7, 15, 31, 63, 127, 255, 511, 511, 511, 4095, 511, 511, 511, 65535, 131071, 262143, 524287]
theorem r56.tab11 : rtab .any (opsOf Try.f56 11) = r56.T11 := by kernel_rfl
theorem r56.bits11 : waitsOk r56.T11.2 r56.B11 = true := by kernel_rfl
set_option maxHeartbeats 4000000 in
set_option maxRecDepth 100000 in
theorem rgreedy_calls (b : Bool) (n : Int) (A : Option Addr) (c : Nat) (l : List (List Int)) (w : World) (hr : Kd.C kl w A l.length l) (hc : l.length ≤ c) :
    Calls Try.prog 56 #[.int .i64 n, .slice A l.length c, .bool b] w fun e w' => ∃ v0, e = .returned (.tuple #[v0, .int .i64 (rgreedyF b n l).2]) ∧ Kd.R (Kd.int .i64) 3 w' w.heap.size (fun _ => True) v0 (rgreedyF b n l).1 ∧ Below w.heap.size w w' := by
  have hu61 := Try.underlying61
  have HC := Aside0.mk (rright_calls n A c l w hr)
  cases hR : rightF n l with
  | false =>
    have hE : rgreedyF b n l = ([], 1) := by unfold rgreedyF; rw [hR]; rfl
    rw [hR] at HC
    rw [hE]
    clear hr hR hE
    go_enter Try.func56, Try.ntmps56
    go_wp2_with fail
    refine HC.out.mono ?_
    rintro e w1 ⟨rfl, rfl⟩
    go_wp2
    go_ret2
    exact ⟨_, rfl, Kd.R_nil _ _ _ _ _, Below.refl _ _⟩
  | true =>
    have hT := rightF_true hR
    obtain ⟨N, rfl⟩ := Int.eq_ofNat_of_zero_le hT.1
    have hN : N ≤ 16 := by omega
    have hv : ∀ x ∈ l, ∀ v ∈ x, 0 ≤ v ∧ v < (N : Int) := fun x hx v hv => (hT.2.2.2 x hx).2 v hv
    rw [hR] at HC
    have hE : rgreedyF b N l = (rgL b N N (ofG l) (2 ^ N - 1) [], 0) := by unfold rgreedyF; rw [hR]; rfl
    rw [hE]
    have HRf := Aside0.mk (rof_calls N A c l w hr hc hN hv)
    clear hr hR hv hT hE
    go_enter Try.func56, Try.ntmps56
    go_wp2_with fail
    refine HC.out.mono ?_
    rintro e w1 ⟨rfl, rfl⟩
    clear HC
    go_wp2_with fail
    refine HRf.out.mono ?_
    rintro e w3 ⟨A1, B1, R, rfl, hM, hb⟩
    generalize hG : ofG l = G at *
    have HGe := Aside0.mk hG
    generalize hL : 2 ^ N - 1 = L at *
    have HLe := Aside0.mk hL
    have hB3 : Below w1.heap.size w1 (w3.alloc (gbox N A1 B1)) := hb.alloc hb.size _
    have HI0 : RgI w1 ((w3.alloc (gbox N A1 B1)).alloc (.cells #[] 3)) N w3.heap.size A1 B1 R G L (.slice (some ⟨w3.heap.size + 1, 0, none⟩) 0 0) [] := ⟨(hM.alloc _).alloc _, blk_alloc (blk_new w3 _) _, Kd.R_of_own (by
      have h := own_lit (w3.alloc (gbox N A1 B1)) w1.heap.size 3 .i64 [] hB3.size (by decide)
      simp only [World.size_alloc] at h
      exact h) (fun _ _ => trivial), hB3.alloc hB3.size _⟩
    clear hM hb hG hL HRf hB3
    go_wp2
    go_loopw [9, 21] (fun s9 s21 wr => ∃ k : Nat, ∃ H : Nat → Nat, ∃ L' : Nat, ∃ out : List Int, k ≤ N ∧ s21 = .int .i64 (k : Int) ∧ Aside0 (rgL b N (N - k) H L' out = rgL b N N G L []) ∧ Aside0 (out.length = k ∧ ∀ j : Nat, j < N → L'.testBit j = false → (j : Int) ∈ out) ∧ RgI w1 wr N w3.heap.size A1 B1 R H L' s9 out) (fun _ s21 _ => (N - (intOf s21).toNat))
    case atStart => exact ⟨0, G, L, [], by omega, rfl, ⟨rfl⟩, ⟨rfl, fun j hj h => by rw [← HLe.out, Nat.testBit_two_pow_sub_one, decide_eq_true hj] at h; cases h⟩, HI0⟩
    case round =>
      clear HI0
      obtain ⟨k, H, L', out, hk, rfl, HE, HP, HI⟩ := hrel
      by_cases hlt : k < N
      · have hkd : decide (k < N) = true := decide_eq_true hlt
        have hst : Aside0 (rgL b N (N - (k + 1)) (addL H (rfill H L' N (rgI b N H L' 0 (-1)).toNat)) (cb L' (rgI b N H L' 0 (-1)).toNat) (out ++ [rgI b N H L' 0 (-1)]) = rgL b N N G L []) := ⟨by
          rw [← HE.out, show N - k = (N - (k + 1)) + 1 by omega]
          rfl⟩
        generalize hgr : rgI b N H L' 0 (-1) = fin at *
        have HGR := Aside0.mk hgr
        clear hgr HE
        obtain ⟨A9, c9, rfl, hc9, hC9⟩ := Kd.R_reads HI.row
        clear hC9
        go_wp2
        go_loopw [10, 11] (fun s10 s11 wr => ∃ v : Nat, ∃ best : Int, v ≤ N ∧ s11 = .int .i64 (v : Int) ∧ s10 = .int .i64 best ∧ Aside0 (rgI b N H L' v best = fin) ∧ Aside0 ((best = -1 ∧ ∀ u : Nat, u < v → L'.testBit u = false) ∨ (0 ≤ best ∧ best < (N : Int))) ∧ RgI w1 wr N w3.heap.size A1 B1 R H L' (.slice A9 out.length c9) out) (fun _ s11 _ => (N - (intOf s11).toNat))
        case atStart => exact ⟨0, -1, by omega, rfl, rfl, HGR, ⟨Or.inl ⟨rfl, fun u hu => by omega⟩⟩, HI⟩
        case round =>
          clear HI
          obtain ⟨v, best, hv, rfl, rfl, HS, HB, HI⟩ := hrel
          by_cases hltv : v < N
          · have hvd : decide (v < N) = true := decide_eq_true hltv
            have hS2 : Aside0 (rgI b N H L' (v + 1) (if rgT b H L' N best v = true then (v : Int) else best) = fin) := ⟨by rw [← HS.out, rgI_step b N H L' v best hltv, rgS_eq]⟩
            have HTd := Aside0.mk (show rgT b H L' N best v = (L'.testBit v && (decide (best < 0) || decide (rcF b H L' N v < rcF b H L' N best.toNat))) from rfl)
            generalize rgT b H L' N best v = t at *
            obtain ⟨hb0, hb1⟩ := boxC HI.box
            have hlc := HI.mat.leftC v hltv
            clear HS
            go_wp2
            go_upto_region 11 with fail
            go_cut [47] (fun s47 wx => s47 = .bool t ∧ RgI w1 wx N w3.heap.size A1 B1 R H L' (.slice A9 out.length c9) out)
            case first =>
              cases hL : L'.testBit v with
              | false =>
                have ht : Aside0 (t = false) := ⟨by rw [HTd.out, hL]; rfl⟩
                rw [hL] at hlc
                go_quiet (fail)
                go_wp2
                go_meet
                exact ⟨by rw [ht.out], HI.drewN _⟩
              | true =>
                rw [hL] at hlc
                by_cases hbn : best < 0
                · have hbd : decide (best < 0) = true := decide_eq_true hbn
                  have ht : Aside0 (t = true) := ⟨by rw [HTd.out, hL, hbd]; rfl⟩
                  go_quiet (fail)
                  go_wp2
                  go_meet
                  exact ⟨by rw [ht.out], HI.drewN _⟩
                · have hbd : decide (best < 0) = false := decide_eq_false hbn
                  obtain ⟨u, rfl⟩ := Int.eq_ofNat_of_zero_le (show 0 ≤ best by omega)
                  have hu : u < N := by
                    rcases HB.out with h | h <;> omega
                  have ht : Aside0 (t = decide (rcF b H L' N v < rcF b H L' N u)) := ⟨by rw [HTd.out, hL, hbd]; rfl⟩
                  have hcall : gval N A1 B1 = .agg #[.slice (some ⟨A1, 0, none⟩) N N, .slice (some ⟨B1, 0, none⟩) N N] := rfl
                  have HID := HI.drewN 1
                  have H1 := Aside0.mk (rcost_calls HID.mat hN v hltv b)
                  rw [hcall] at H1
                  have e1 : (if b then ((rfill H L' N v).length : Int) else ((nb H L' N v).length : Int)) = rcF b H L' N v := rfl
                  have e2 : (if b then ((rfill H L' N u).length : Int) else ((nb H L' N u).length : Int)) = rcF b H L' N u := rfl
                  rw [e1] at H1
                  generalize rcF b H L' N v = cv at *
                  refine start_ (n := 20) (S := fun w' : World => w'.cell? ⟨w3.heap.size, 0, none⟩ = some (.slice (some ⟨A1, 0, none⟩) N N) ∧ w'.cell? ⟨w3.heap.size, 1, none⟩ = some (.slice (some ⟨B1, 0, none⟩) N N) ∧ w'.cell? ⟨B1, v, none⟩ = some (.bool true)) (ds := []) #[false, false, false, false, false, false, false, false, false, false, false, false, false, false, false, false, false, false, false, false] (by kernel_rfl) rfl rfl ⟨hb0, hb1, hlc⟩ (fun hHeld => ?_)
                  refine with_tabW r56.tab11 r56.bits11 (fun HT_ HW_ => ?_)
                  refine pure_ (i := 0) (N := some 28) (v := ?_) (a' := ?_) #[true, false, false, false, false, false, false, false, false, false, false, false, false, false, false, false, false, false, false, false] rfl rfl (any_of HT_.out (by kernel_rfl)) (fun _ _ _ h => h) (Or.inl ⟨by rfl, ?_⟩) ?_ ?_
                  rotate_left
                  · intro w'
                    go_simp
                    with_reducible rfl
                  rotate_left
                  · simp only [Act.put, List.setIfInBounds_toArray, List.set_cons_zero, List.set_cons_succ, i64_w, i32_w]
                    rfl
                  refine pure_ (i := 2) (N := some 30) (v := ?_) (a' := ?_) #[true, false, true, false, false, false, false, false, false, false, false, false, false, false, false, false, false, false, false, false] rfl rfl (any_of HT_.out (by kernel_rfl)) (fun _ _ _ h => h) (Or.inl ⟨by rfl, ?_⟩) ?_ ?_
                  rotate_left
                  · intro w'
                    go_simp
                    with_reducible rfl
                  rotate_left
                  · simp only [Act.put, List.setIfInBounds_toArray, List.set_cons_zero, List.set_cons_succ, i64_w, i32_w]
                    rfl
                  refine take_ (i := 1) (N := some 29) (v := ?_) (a' := ?_) #[true, true, true, false, false, false, false, false, false, false, false, false, false, false, false, false, false, false, false, false] rfl rfl (take_ofW HT_.out HW_.out (by kernel_rfl)) (fun _ _ _ h => h) (Or.inl ⟨by rfl, ?_⟩) hHeld ?_ ?_
                  rotate_left
                  · rintro w' ⟨s0, s1, s2⟩
                    go_simp
                    with_reducible rfl
                  rotate_left
                  · simp only [Act.put, List.setIfInBounds_toArray, List.set_cons_zero, List.set_cons_succ, i64_w, i32_w]
                    rfl
                  refine pure_ (i := 3) (N := some 31) (v := ?_) (a' := ?_) #[true, true, true, true, false, false, false, false, false, false, false, false, false, false, false, false, false, false, false, false] rfl rfl (any_of HT_.out (by kernel_rfl)) (fun _ _ _ h => h) (Or.inl ⟨by rfl, ?_⟩) ?_ ?_
                  rotate_left
                  · intro w'
                    go_simp
                    with_reducible rfl
                  rotate_left
                  · simp only [Act.put, List.setIfInBounds_toArray, List.set_cons_zero, List.set_cons_succ, i64_w, i32_w]
                    rfl
                  refine take_ (i := 4) (N := some 32) (v := ?_) (a' := ?_) #[true, true, true, true, true, false, false, false, false, false, false, false, false, false, false, false, false, false, false, false] rfl rfl (take_ofW HT_.out HW_.out (by kernel_rfl)) (fun _ _ _ h => h) (Or.inl ⟨by rfl, ?_⟩) hHeld ?_ ?_
                  rotate_left
                  · rintro w' ⟨s0, s1, s2⟩
                    go_simp
                    with_reducible rfl
                  rotate_left
                  · simp only [Act.put, List.setIfInBounds_toArray, List.set_cons_zero, List.set_cons_succ, i64_w, i32_w]
                    rfl
                  refine pure_ (i := 5) (N := some 33) (v := ?_) (a' := ?_) #[true, true, true, true, true, true, false, false, false, false, false, false, false, false, false, false, false, false, false, false] rfl rfl (any_of HT_.out (by kernel_rfl)) (fun _ _ _ h => h) (Or.inl ⟨by rfl, ?_⟩) ?_ ?_
                  rotate_left
                  · intro w'
                    go_simp
                    with_reducible rfl
                  rotate_left
                  · simp only [Act.put, List.setIfInBounds_toArray, List.set_cons_zero, List.set_cons_succ, i64_w, i32_w]
                    rfl
                  refine pure_ (i := 6) (N := some 34) (v := ?_) (a' := ?_) #[true, true, true, true, true, true, true, false, false, false, false, false, false, false, false, false, false, false, false, false] rfl rfl (any_of HT_.out (by kernel_rfl)) (fun _ _ _ h => h) (Or.inl ⟨by rfl, ?_⟩) ?_ ?_
                  rotate_left
                  · intro w'
                    go_simp
                    with_reducible rfl
                  rotate_left
                  · simp only [Act.put, List.setIfInBounds_toArray, List.set_cons_zero, List.set_cons_succ, i64_w, i32_w]
                    rfl
                  refine pure_ (i := 7) (N := some 35) (v := ?_) (a' := ?_) #[true, true, true, true, true, true, true, true, false, false, false, false, false, false, false, false, false, false, false, false] rfl rfl (any_of HT_.out (by kernel_rfl)) (fun _ _ _ h => h) (Or.inl ⟨by rfl, ?_⟩) ?_ ?_
                  rotate_left
                  · intro w'
                    go_simp
                    with_reducible rfl
                  rotate_left
                  · simp only [Act.put, List.setIfInBounds_toArray, List.set_cons_zero, List.set_cons_succ, i64_w, i32_w]
                    rfl
                  refine pure_ (i := 8) (N := some 36) (v := ?_) (a' := ?_) #[true, true, true, true, true, true, true, true, true, false, false, false, false, false, false, false, false, false, false, false] rfl rfl (any_of HT_.out (by kernel_rfl)) (fun _ _ _ h => h) (Or.inl ⟨by rfl, ?_⟩) ?_ ?_
                  rotate_left
                  · intro w'
                    go_simp
                    with_reducible rfl
                  rotate_left
                  · simp only [Act.put, List.setIfInBounds_toArray, List.set_cons_zero, List.set_cons_succ, i64_w, i32_w]
                    rfl
                  refine pure_ (i := 10) (N := some 38) (v := ?_) (a' := ?_) #[true, true, true, true, true, true, true, true, true, false, true, false, false, false, false, false, false, false, false, false] rfl rfl (any_of HT_.out (by kernel_rfl)) (fun _ _ _ h => h) (Or.inl ⟨by rfl, ?_⟩) ?_ ?_
                  rotate_left
                  · intro w'
                    go_simp
                    with_reducible rfl
                  rotate_left
                  · simp only [Act.put, List.setIfInBounds_toArray, List.set_cons_zero, List.set_cons_succ, i64_w, i32_w]
                    rfl
                  refine pure_ (i := 11) (N := some 39) (v := ?_) (a' := ?_) #[true, true, true, true, true, true, true, true, true, false, true, true, false, false, false, false, false, false, false, false] rfl rfl (any_of HT_.out (by kernel_rfl)) (fun _ _ _ h => h) (Or.inl ⟨by rfl, ?_⟩) ?_ ?_
                  rotate_left
                  · intro w'
                    go_simp
                    with_reducible rfl
                  rotate_left
                  · simp only [Act.put, List.setIfInBounds_toArray, List.set_cons_zero, List.set_cons_succ, i64_w, i32_w]
                    rfl
                  refine pure_ (i := 14) (N := some 42) (v := ?_) (a' := ?_) #[true, true, true, true, true, true, true, true, true, false, true, true, false, false, true, false, false, false, false, false] rfl rfl (any_of HT_.out (by kernel_rfl)) (fun _ _ _ h => h) (Or.inl ⟨by rfl, ?_⟩) ?_ ?_
                  rotate_left
                  · intro w'
                    go_simp
                    with_reducible rfl
                  rotate_left
                  · simp only [Act.put, List.setIfInBounds_toArray, List.set_cons_zero, List.set_cons_succ, i64_w, i32_w]
                    rfl
                  refine pure_ (i := 15) (N := some 43) (v := ?_) (a' := ?_) #[true, true, true, true, true, true, true, true, true, false, true, true, false, false, true, true, false, false, false, false] rfl rfl (any_of HT_.out (by kernel_rfl)) (fun _ _ _ h => h) (Or.inl ⟨by rfl, ?_⟩) ?_ ?_
                  rotate_left
                  · intro w'
                    go_simp
                    with_reducible rfl
                  rotate_left
                  · simp only [Act.put, List.setIfInBounds_toArray, List.set_cons_zero, List.set_cons_succ, i64_w, i32_w]
                    rfl
                  refine take_ (i := 9) (N := some 37) (v := ?_) (a' := ?_) #[true, true, true, true, true, true, true, true, true, true, true, true, false, false, true, true, false, false, false, false] rfl rfl (take_ofW HT_.out HW_.out (by kernel_rfl)) (fun _ _ _ h => h) (Or.inl ⟨by rfl, ?_⟩) hHeld ?_ ?_
                  rotate_left
                  · rintro w' ⟨s0, s1, s2⟩
                    go_simp
                    with_reducible rfl
                  rotate_left
                  · simp only [Act.put, List.setIfInBounds_toArray, List.set_cons_zero, List.set_cons_succ, i64_w, i32_w]
                    rfl
                  refine take_ (i := 13) (N := some 41) (v := ?_) (a' := ?_) #[true, true, true, true, true, true, true, true, true, true, true, true, false, true, true, true, false, false, false, false] rfl rfl (take_ofW HT_.out HW_.out (by kernel_rfl)) (fun _ _ _ h => h) (Or.inl ⟨by rfl, ?_⟩) hHeld ?_ ?_
                  rotate_left
                  · rintro w' ⟨s0, s1, s2⟩
                    go_simp
                    with_reducible rfl
                  rotate_left
                  · simp only [Act.put, List.setIfInBounds_toArray, List.set_cons_zero, List.set_cons_succ, i64_w, i32_w]
                    rfl
                  refine one_ (i := 12) (N := some 40) #[true, true, true, true, true, true, true, true, true, true, true, true, true, true, true, true, false, false, false, false] rfl rfl (one_of HT_.out (by kernel_rfl)) (by decide) (fun K hK => ?_)
                  refine goes_ Try.func70 (by kernel_rfl) rfl #[.agg #[.slice (some ⟨A1, 0, none⟩) N N, .slice (some ⟨B1, 0, none⟩) N N], .int .i64 (v : Int), .bool b] (by rfl) rfl rfl (by simp only [List.map_toArray, List.map_cons, List.map_nil]; rfl) ?_
                  refine H1.out.mono ?_
                  rintro e w5 ⟨rfl, hb5⟩
                  refine ⟨_, rfl, ?_⟩
                  have HI5 := HID.below hb5
                  clear hb5
                  have H2 := rcost_calls HI5.mat hN u hu b
                  rw [hcall, e2] at H2
                  have H2A := Aside0.mk H2
                  clear H2
                  obtain ⟨hbx, hby⟩ := boxC HI5.box
                  have hlx := HI5.mat.leftC v hltv
                  rw [hL] at hlx
                  refine hK.out _ _ ⟨hbx, hby, hlx⟩ (fun hHeld => ?_)
                  clear hK K hbx hby hlx
                  refine one_ (i := 16) (N := some 44) #[true, true, true, true, true, true, true, true, true, true, true, true, true, true, true, true, true, false, false, false] rfl rfl (one_of HT_.out (by kernel_rfl)) (by decide) (fun K hK => ?_)
                  refine goes_ Try.func70 (by kernel_rfl) rfl #[.agg #[.slice (some ⟨A1, 0, none⟩) N N, .slice (some ⟨B1, 0, none⟩) N N], .int .i64 (u : Int), .bool b] (by rfl) rfl rfl (by simp only [List.map_toArray, List.map_cons, List.map_nil]; rfl) ?_
                  refine H2A.out.mono ?_
                  rintro e w6 ⟨rfl, hb5⟩
                  refine ⟨_, rfl, ?_⟩
                  have HI6 := HI5.below hb5
                  clear hb5
                  obtain ⟨hbx, hby⟩ := boxC HI6.box
                  have hlx := HI6.mat.leftC v hltv
                  rw [hL] at hlx
                  refine hK.out _ _ ⟨hbx, hby, hlx⟩ (fun hHeld => ?_)
                  clear hK K hbx hby hlx
                  refine pure_ (i := 17) (N := some 45) (v := ?_) (a' := ?_) #[true, true, true, true, true, true, true, true, true, true, true, true, true, true, true, true, true, true, false, false] rfl rfl (any_of HT_.out (by kernel_rfl)) (fun _ _ _ h => h) (Or.inl ⟨by rfl, ?_⟩) ?_ ?_
                  rotate_left
                  · intro w'
                    go_simp
                    with_reducible rfl
                  rotate_left
                  · simp only [Act.put, List.setIfInBounds_toArray, List.set_cons_zero, List.set_cons_succ, i64_w, i32_w]
                    rfl
                  refine pure_ (i := 18) (N := some 46) (v := ?_) (a' := ?_) #[true, true, true, true, true, true, true, true, true, true, true, true, true, true, true, true, true, true, true, false] rfl rfl (any_of HT_.out (by kernel_rfl)) (fun _ _ _ h => h) (Or.inl ⟨by rfl, ?_⟩) ?_ ?_
                  rotate_left
                  · intro w'
                    go_simp
                    with_reducible rfl
                  rotate_left
                  · simp only [Act.put, List.setIfInBounds_toArray, List.set_cons_zero, List.set_cons_succ, i64_w, i32_w]
                    rfl
                  refine pure_ (i := 19) (N := some 47) (v := ?_) (a' := ?_) #[true, true, true, true, true, true, true, true, true, true, true, true, true, true, true, true, true, true, true, true] rfl rfl (any_of HT_.out (by kernel_rfl)) (fun _ _ _ h => h) (Or.inl ⟨by rfl, ?_⟩) ?_ ?_
                  rotate_left
                  · intro w'
                    go_simp
                    with_reducible rfl
                  rotate_left
                  · simp only [Act.put, List.setIfInBounds_toArray, List.set_cons_zero, List.set_cons_succ, i64_w, i32_w]
                    rfl
                  refine done_ (done_of HT_.out (by kernel_rfl)) ?_

                  go_wp2
                  go_meet
                  exact ⟨by rw [ht.out], HI6⟩

            case rest =>
              obtain ⟨rfl, HI2⟩ := hcut
              cases t with
              | true =>
                have hT : Aside0 (rgI b N H L' (v + 1) (v : Int) = fin) := ⟨by have := hS2.out; rwa [if_pos rfl] at this⟩
                go_wp2
                go_roundw
                case rel => exact ⟨v + 1, (v : Int), by omega, by go_num, rfl, hT, ⟨Or.inr ⟨by omega, by omega⟩⟩, HI2⟩
                case measure => simp [intOf]; omega
              | false =>
                have hT : Aside0 (rgI b N H L' (v + 1) best = fin) := ⟨by have := hS2.out; rwa [if_neg (by simp)] at this⟩
                have HB2 : Aside0 ((best = -1 ∧ ∀ u : Nat, u < v + 1 → L'.testBit u = false) ∨ (0 ≤ best ∧ best < (N : Int))) := ⟨by
                  rcases HB.out with ⟨h1, h2⟩ | h1
                  · refine Or.inl ⟨h1, fun u hu => ?_⟩
                    by_cases e : u = v
                    · subst e
                      have := HTd.out
                      rw [h1] at this
                      cases hx : L'.testBit u with
                      | false => rfl
                      | true => rw [hx] at this; simp at this
                    · exact h2 u (by omega)
                  · exact Or.inr h1⟩
                go_wp2
                go_roundw
                case rel => exact ⟨v + 1, best, by omega, by go_num, rfl, hT, HB2, HI2⟩
                case measure => simp [intOf]; omega
          · obtain rfl : v = N := by omega
            have hfin : fin = best := by rw [← HS.out, rgI_end]
            have hB : 0 ≤ best ∧ best < (v : Int) := by
              rcases HB.out with ⟨h1, h2⟩ | h1
              · have := pigeon v out (fun u hu => HP.out.2 u hu (h2 u hu))
                have := HP.out.1
                omega
              · exact h1
            have hst2 := hst.out
            rw [hfin] at hst2
            obtain ⟨bn, rfl⟩ := Int.eq_ofNat_of_zero_le hB.1
            have hbn : bn < v := by omega
            have hst3 : Aside0 (rgL b v (v - (k + 1)) (addL H (rfill H L' v bn)) (cb L' bn) (out ++ [(bn : Int)]) = rgL b v v G L []) := ⟨hst2⟩
            have HP2 : Aside0 ((out ++ [(bn : Int)]).length = k + 1 ∧ ∀ j : Nat, j < v → (cb L' bn).testBit j = false → (j : Int) ∈ out ++ [(bn : Int)]) := ⟨by rw [List.length_append, HP.out.1]; rfl, fun j hj h => by
              rw [cb_bit L' bn j (by omega)] at h
              by_cases e : j = bn
              · subst e; simp
              · have h2 : L'.testBit j = false := by simpa [e] using h
                exact List.mem_append_left _ (HP.out.2 j hj h2)⟩
            have hol : out.length ≤ 16 := by have := HP.out.1; omega
            have hcall : gval v A1 B1 = .agg #[.slice (some ⟨A1, 0, none⟩) v v, .slice (some ⟨B1, 0, none⟩) v v] := rfl
            clear HS HB hst hst2 hfin hB HGR HP
            go_wp2_with (at_builtin; refine Kd.R_append (Kd.int .i64) (w0 := w1) w1.heap.size rfl (.tmp 49) (.tmp 51) 25 3 (.int .i64 0) 8 rfl Try.underlying25 info3 rfl (by decide) (by omega) _ out (bn : Int) [.int .i64 (bn : Int)] (fun _ => True) (fun _ => False) rfl rfl ?aP (fun _ hk => hk.elim) ?aF ?aO ?aB ?aS ?aL ?_; (case aP => exact rfl); (case aF => exact (fun _ _ => trivial)); (case aO => exact HI.row); (case aB => exact HI.bel); (case aS => exact HI.bel.size); (case aL => omega); intro v1 w7 ho hb1 hg1 hat1; have HI1 := HI.push ho hb1 hg1; clear ho hb1 hg1 hat1 HI; have hbx := (boxC HI1.box).1; have hby := (boxC HI1.box).2; have HOu := Aside0.mk (out_calls HI1.mat hN bn hbn); rw [hcall] at HOu)
            refine HOu.out.mono ?_
            rintro e w8 ⟨rfl, hM8, hO8⟩
            have HI8 := HI1.out hM8 hO8
            clear HOu hM8 hO8 HI1 hcall hbx hby
            go_wp2
            go_roundw
            case rel => exact ⟨k + 1, _, _, _, by omega, by go_num, hst3, HP2, HI8⟩
            case measure => simp [intOf]; omega
      · obtain rfl : k = N := by omega
        have hend : Aside0 (out = rgL b k k G L []) := ⟨by rw [← HE.out, Nat.sub_self]; rfl⟩
        go_wp2
        go_ret2
        exact ⟨_, rfl, by rw [HGe.out, HLe.out, ← hend.out]; exact HI.row, HI.bel⟩
end
section
set_option linter.unusedVariables false
set_option linter.unusedSimpArgs false
open Go.RowKit Go.Proofs.YtnnaakinchophaaW.PrintWords Go.Proofs.YtnnaakinchophaaW.PrintLast Go.Proofs.YtnnaakinchophaaW.PrintMore
set_option maxHeartbeats 400000 in
theorem rminDegree_calls (n : Int) (A : Option Addr) (c : Nat) (l : List (List Int)) (w : World) (hr : Kd.C kl w A l.length l) (hc : l.length ≤ c) :
    Calls Try.prog 31 #[.int .i64 n, .slice A l.length c] w fun e w' => ∃ v0, e = .returned (.tuple #[v0, .int .i64 (rgreedyF false n l).2]) ∧ Kd.R (Kd.int .i64) 3 w' w.heap.size (fun _ => True) v0 (rgreedyF false n l).1 ∧ Below w.heap.size w w' := by
  have H1 := Aside0.mk (rgreedy_calls false n A c l w hr hc)
  generalize rgreedyF false n l = P at *
  obtain ⟨P1, P2⟩ := P
  clear hr hc
  go_enter Try.func31, Try.ntmps31
  go_wp2_with fail
  refine H1.out.mono ?_
  rintro e w1 ⟨v0, rfl, hR, hB⟩
  have HB := Aside0.mk (And.intro hR hB)
  clear hR hB H1
  go_wp2
  go_ret2
  exact ⟨_, rfl, HB.out.1, HB.out.2⟩
set_option maxHeartbeats 400000 in
theorem rminFill_calls (n : Int) (A : Option Addr) (c : Nat) (l : List (List Int)) (w : World) (hr : Kd.C kl w A l.length l) (hc : l.length ≤ c) :
    Calls Try.prog 33 #[.int .i64 n, .slice A l.length c] w fun e w' => ∃ v0, e = .returned (.tuple #[v0, .int .i64 (rgreedyF true n l).2]) ∧ Kd.R (Kd.int .i64) 3 w' w.heap.size (fun _ => True) v0 (rgreedyF true n l).1 ∧ Below w.heap.size w w' := by
  have H1 := Aside0.mk (rgreedy_calls true n A c l w hr hc)
  generalize rgreedyF true n l = P at *
  obtain ⟨P1, P2⟩ := P
  clear hr hc
  go_enter Try.func33, Try.ntmps33
  go_wp2_with fail
  refine H1.out.mono ?_
  rintro e w1 ⟨v0, rfl, hR, hB⟩
  have HB := Aside0.mk (And.intro hR hB)
  clear hR hB H1
  go_wp2
  go_ret2
  exact ⟨_, rfl, HB.out.1, HB.out.2⟩
end
section
set_option linter.unusedVariables false
set_option linter.unusedSimpArgs false
open Go.RowKit Go.Proofs.YtnnaakinchophaaW.PrintWords Go.Proofs.YtnnaakinchophaaW.PrintLast Go.Proofs.YtnnaakinchophaaW.PrintMore
theorem any_mem (out : List Int) (v : Int) : (out.any fun y => v == y) = decide (v ∈ out) := by
  rw [Bool.eq_iff_iff]
  simp
/-- The best so far, or none. -/
def BestP (N : Nat) (out : List Int) (b : Int) : Prop := b < 0 ∨ (0 ≤ b ∧ b < (N : Int) ∧ b ∉ out)
theorem grF_best (cf : (Nat → Nat) → Nat → Int) (N : Nat) (H : Nat → Nat) (out : List Int) : ∀ (l : List Nat) (s : Int × Int), (∀ v ∈ l, v < N) → BestP N out s.1 → BestP N out (l.foldl (grS cf H out) s).1
  | [], s, _, h => h
  | v :: r, s, hl, h => by
    rw [List.foldl_cons]
    refine grF_best cf N H out r _ (fun u hu => hl u (List.mem_cons_of_mem _ hu)) ?_
    unfold grS
    rw [any_mem]
    by_cases hm : (v : Int) ∈ out
    · rw [if_pos (decide_eq_true hm)]; exact h
    · rw [if_neg (by simp [hm])]
      split
      · have := hl v List.mem_cons_self
        exact Or.inr ⟨by show (0 : Int) ≤ (v : Int); omega, by show (v : Int) < N; omega, hm⟩
      · exact h
theorem grF_some (cf : (Nat → Nat) → Nat → Int) (H : Nat → Nat) (out : List Int) : ∀ (l : List Nat) (s : Int × Int), (0 ≤ s.1 ∨ ∃ v ∈ l, (v : Int) ∉ out) → 0 ≤ (l.foldl (grS cf H out) s).1
  | [], s, h => by
    rcases h with h | ⟨v, hv, _⟩
    · exact h
    · cases hv
  | v :: r, s, h => by
    rw [List.foldl_cons]
    refine grF_some cf H out r _ ?_
    unfold grS
    rw [any_mem]
    by_cases hm : (v : Int) ∈ out
    · rw [if_pos (decide_eq_true hm)]
      rcases h with h | ⟨u, hu, hn⟩
      · exact Or.inl h
      · rcases List.mem_cons.1 hu with rfl | hu
        · exact absurd hm hn
        · exact Or.inr ⟨u, hu, hn⟩
    · rw [if_neg (by simp [hm])]
      left
      split
      · show (0 : Int) ≤ (v : Int); omega
      · omega
theorem od_free {N : Nat} {out : List Int} (h : OdP N out) (hl : out.length < N) : ∃ v : Nat, v < N ∧ (v : Int) ∉ out := by
  apply Classical.byContradiction
  intro hx
  have := pigeon N out (fun u hu => Classical.byContradiction fun hm => hx ⟨u, hu, hm⟩)
  omega
theorem OdP.push {N : Nat} {out : List Int} (h : OdP N out) (hl : out.length < N) {b : Int} (h0 : 0 ≤ b) (h1 : b < (N : Int)) (h2 : b ∉ out) : OdP N (out ++ [b]) where
  nd := by
    rw [List.nodup_append]
    exact ⟨h.nd, by simp, fun a ha c hc e => by
      rw [List.mem_singleton] at hc
      subst hc; subst e; exact h2 ha⟩
  rg := fun x hx => by
    rcases List.mem_append.1 hx with h' | h'
    · exact h.rg x h'
    · rw [List.mem_singleton] at h'; subst h'; exact ⟨h0, h1⟩
  len := by rw [List.length_append]; simp; omega
theorem gr_best {cf : (Nat → Nat) → Nat → Int} {N : Nat} {H : Nat → Nat} {out : List Int} (h : OdP N out) (hl : out.length < N) : 0 ≤ (grI cf N H out 0 (-1, 0)).1 ∧ (grI cf N H out 0 (-1, 0)).1 < (N : Int) ∧ (grI cf N H out 0 (-1, 0)).1 ∉ out := by
  have h1 := grF_best cf N H out (List.range' 0 (N - 0)) (-1, 0) (fun v hv => by have := List.mem_range'_1.1 hv; omega) (Or.inl (by decide))
  obtain ⟨v, hv, hm⟩ := od_free h hl
  have h2 := grF_some cf H out (List.range' 0 (N - 0)) (-1, 0) (Or.inr ⟨v, List.mem_range'_1.2 (by omega), hm⟩)
  rcases h1 with h1 | h1
  · omega
  · exact h1
theorem grL_od (cf : (Nat → Nat) → Nat → Int) (N : Nat) : ∀ (m : Nat) (H : Nat → Nat) (out : List Int), OdP N out → out.length + m = N → OdP N (grL cf N m H out) ∧ (grL cf N m H out).length = N
  | 0, H, out, h, hl => ⟨h, hl⟩
  | m + 1, H, out, h, hl => by
    obtain ⟨h0, h1, h2⟩ := gr_best (cf := cf) (H := H) h (by omega)
    unfold grL
    exact grL_od cf N m _ _ (h.push (by omega) h0 h1 h2) (by rw [List.length_append]; simp; omega)
/-- A greedy order is a permutation of the variables. -/
theorem greedy_od {cf : (Nat → Nat) → Nat → Int} {n : Int} {l : List (List Int)} (h : rightF n l = true) : OdP n.toNat (greedyF cf n l).1 ∧ (greedyF cf n l).1.length = n.toNat ∧ (greedyF cf n l).2 = 0 := by
  unfold greedyF
  rw [if_pos h]
  have := grL_od cf n.toNat n.toNat (ofG l) [] ⟨List.nodup_nil, fun x hx => absurd hx List.not_mem_nil, Nat.zero_le _⟩ (by simp)
  exact ⟨this.1, this.2, rfl⟩
/-- The costs agree. -/
def CostP (b : Bool) (cf : (Nat → Nat) → Nat → Int) : Prop := ∀ N H G L v, N ≤ 16 → Sim N H G L → v < N → L.testBit v = true → cf H v = rcF b G L N v
theorem costD : CostP false cfD := fun N H G L v hN h hv hL => by
  unfold cfD rcF
  rw [if_neg (by simp), h.deg hN v (by omega) hL]
theorem costF : CostP true cfF := fun N H G L v hN h hv hL => by
  unfold cfF rcF
  rw [if_pos rfl, h.fill hN v (by omega) hL]
theorem gr_in {b : Bool} {cf : (Nat → Nat) → Nat → Int} (hc : CostP b cf) {N : Nat} (hN : N ≤ 16) {H G : Nat → Nat} {L : Nat} (h : Sim N H G L) {out : List Int} (ho : ∀ j, j < N → L.testBit j = !decide ((j : Int) ∈ out)) :
    ∀ (l : List Nat) (s : Int × Int), (∀ v ∈ l, v < N) → (s.1 < 0 ∨ ∃ u : Nat, s.1 = (u : Int) ∧ u < N ∧ L.testBit u = true ∧ s.2 = cf H u) → (l.foldl (grS cf H out) s).1 = l.foldl (rgS b G L N) s.1
  | [], s, _, _ => rfl
  | v :: r, s, hl, hs => by
    have hv := hl v List.mem_cons_self
    rw [List.foldl_cons, List.foldl_cons]
    have hr := fun u hu => hl u (List.mem_cons_of_mem v hu)
    have e1 : grS cf H out s v = if L.testBit v = true then (if s.1 < 0 ∨ cf H v < s.2 then ((v : Int), cf H v) else s) else s := by
      unfold grS
      rw [any_mem, ho v hv]
      by_cases hm : (v : Int) ∈ out <;> simp [hm]
    have e2 : rgS b G L N s.1 v = (if L.testBit v = true then (if s.1 < 0 ∨ cf H v < s.2 then ((v : Int), cf H v) else s) else s).1 := by
      unfold rgS
      by_cases hb : L.testBit v = true
      · rw [if_pos hb, if_pos hb]
        have e : (s.1 < 0 ∨ rcF b G L N v < rcF b G L N s.1.toNat) ↔ (s.1 < 0 ∨ cf H v < s.2) := by
          rcases hs with hs | ⟨u, h1, h2, h3, h4⟩
          · simp [hs]
          · rw [h4, hc N H G L v hN h hv hb, hc N H G L u hN h h2 h3, h1, Int.toNat_natCast]
        by_cases hx : s.1 < 0 ∨ cf H v < s.2
        · rw [if_pos (e.2 hx), if_pos hx]
        · rw [if_neg (fun h => hx (e.1 h)), if_neg hx]
      · rw [if_neg hb, if_neg hb]
    rw [e2, e1]
    refine gr_in hc hN h ho r _ hr ?_
    by_cases hb : L.testBit v = true
    · rw [if_pos hb]
      by_cases hx : s.1 < 0 ∨ cf H v < s.2
      · rw [if_pos hx]
        exact Or.inr ⟨v, rfl, hv, hb, rfl⟩
      · rw [if_neg hx]
        exact hs
    · rw [if_neg hb]
      exact hs
theorem gr_all {b : Bool} {cf : (Nat → Nat) → Nat → Int} (hc : CostP b cf) {N : Nat} (hN : N ≤ 16) : ∀ (m : Nat) (H G : Nat → Nat) (L : Nat) (out : List Int), Sim N H G L → (∀ j, j < N → L.testBit j = !decide ((j : Int) ∈ out)) → OdP N out → out.length + m = N → rgL b N m G L out = grL cf N m H out
  | 0, H, G, L, out, _, _, _, _ => rfl
  | m + 1, H, G, L, out, h, ho, hd, hl => by
    obtain ⟨h0, h1, h2⟩ := gr_best (cf := cf) (H := H) hd (by omega)
    have e : rgI b N G L 0 (-1) = (grI cf N H out 0 (-1, 0)).1 := by
      unfold rgI grI
      exact (gr_in hc hN h ho (List.range' 0 (N - 0)) (-1, 0) (fun v hv => by have := List.mem_range'_1.1 hv; omega) (Or.inl (by decide))).symm
    unfold rgL grL
    rw [e]
    generalize (grI cf N H out 0 (-1, 0)).1 = best at *
    obtain ⟨u, rfl⟩ := Int.eq_ofNat_of_zero_le h0
    rw [Int.toNat_natCast]
    have hu : u < N := by omega
    have hL : L.testBit u = true := by rw [ho u hu]; simp [h2]
    refine gr_all hc hN m _ _ _ _ (h.elim hN u (by omega) hL) (fun j hj => ?_) (hd.push (by omega) h0 h1 h2) (by rw [List.length_append]; simp; omega)
    rw [cb_bit L u j (by omega), ho j hj]
    by_cases hj2 : j = u
    · subst hj2; simp
    · have : ((j : Int) = (u : Int)) ↔ False := ⟨fun h => by omega, False.elim⟩
      simp [hj2, this]
theorem greedy_same {b : Bool} {cf : (Nat → Nat) → Nat → Int} (hc : CostP b cf) (n : Int) (l : List (List Int)) : rgreedyF b n l = greedyF cf n l := by
  unfold rgreedyF greedyF
  cases hR : rightF n l with
  | false => rfl
  | true =>
    have hT := rightF_true hR
    obtain ⟨N, rfl⟩ := Int.eq_ofNat_of_zero_le hT.1
    rw [Int.toNat_natCast, if_pos rfl, if_pos rfl]
    rw [gr_all hc (by omega) N (ofG l) (ofG l) (2 ^ N - 1) [] (sim_start N (by omega) l (fun x hx => (hT.2.2.2 x hx).2)) (fun j hj => by rw [Nat.testBit_two_pow_sub_one]; simp [hj]) ⟨List.nodup_nil, fun x hx => absurd hx List.not_mem_nil, Nat.zero_le _⟩ (by simp)]
theorem greedy_len {cf : (Nat → Nat) → Nat → Int} {n : Int} {l : List (List Int)} : (greedyF cf n l).1.length ≤ 16 := by
  cases hR : rightF n l with
  | false => unfold greedyF; rw [hR]; simp
  | true =>
    rw [(greedy_od hR).2.1]
    have := rightF_true hR
    omega
end
end Go.Proofs.Ytnnaakinchophaa.Ord
