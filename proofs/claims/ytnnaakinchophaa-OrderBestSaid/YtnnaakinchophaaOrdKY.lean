/- The reference's rest, walked; conditions as written. -/
import Derived.Test.YtnnaakinchophaaOrdKX
import Derived.Deep.CutRange
import Derived.Deep.DeepCutAuto
import Derived.BigQuiet
import Derived.Maps.OwnOps
namespace Go.Proofs.Ytnnaakinchophaa.Ord.G
section
set_option linter.unusedVariables false
set_option linter.unusedSimpArgs false
open Go.RowKit Go.Maps Go.Proofs.YtnnaakinchophaaW.PrintWords Go.Proofs.YtnnaakinchophaaW.PrintLast Go.Proofs.YtnnaakinchophaaW.PrintMore
def r41.T14 : Bool × List (List Nat × List Nat) := (true, [([], []), ([0], [0]), ([], []), ([], []), ([2, 3], [2, 3]), ([4], [4]), ([1, 5, 4], [1, 5]), ([0, 1, 2, 3, 4, 5, 6], []), ([7, 6, 6, 0, 1, 2, 3, 4, 5, 6], [6, 7])])
def r41.B14 : List Nat := [0, 1, 0, 0, 12, 28, 63, 127, 255]
theorem r41.tab14 : rtab .any (opsOf Try.f41 14) = r41.T14 := by kernel_rfl
theorem r41.bits14 : waitsOk r41.T14.2 r41.B14 = true := by kernel_rfl
def r418.T18 : Bool × List (List Nat × List Nat) := (true, [([], []), ([], []), ([], []), ([], []), ([3], [3]), ([2, 4], [2, 4]), ([], []), ([1, 5, 6], [1, 5, 6]), ([0, 7], [0, 7]), ([8, 7, 0, 1, 2, 3, 4, 5, 6, 7, 8], [0, 8])])
def r418.B18 : List Nat := [0, 0, 0, 0, 8, 28, 0, 126, 255, 511]
theorem r418.tab18 : rtab .any (opsOf Try.f41 18) = r418.T18 := by kernel_rfl
theorem r418.bits18 : waitsOk r418.T18.2 r418.B18 = true := by kernel_rfl
theorem ks_t61 : ∀ q, q ∈ 59 :: ks.E → q ≠ 61 := by
  intro q hq
  have : q = 59 := by simpa [ks, Kd.scalar] using hq
  omega
attribute [local go_sem] bit0s bit1s max2_int min2_int max_two min_two
set_option maxHeartbeats 8000000 in
set_option maxRecDepth 100000 in
theorem rest_calls {N : Nat} (hN : N ≤ 16) {G0 : Nat → Nat} (hG : Gr N G0) : ∀ (m S : Nat) {w : World} {base A B : Nat} {Kp : Cap} {R G : Nat → Nat} {L mb n : Nat} {D : DataW Unit}, Mat w N base A B Kp R G L → St N G0 S G L → S < 2 ^ N → cz0 N S = m → w.ownsMap Try.prog 3 (plainElem Try.prog 3) mb n D → Kept G0 N D → n + fcp (m + 1) < maxLen →
    Calls Try.prog 41 #[gval N A B Kp, .int .i64 (S : Int), .map (some mb)] w fun e w' => e = .returned (.int .i64 (nd G0 N S)) ∧ w.grownBy w' (some mb) ∧ ∃ (n2 : Nat) (D2 : DataW Unit), n2 ≤ n + fcp (m + 1) ∧ w'.ownsMap Try.prog 3 (plainElem Try.prog 3) mb n2 D2 ∧ Kept G0 N D2 := by
  intro m
  induction m using Nat.strongRecOn with
  | ind m ih =>
    intro S w base A B Kp R G L mb n D hM hSt hS hcz hown hK hn
    have hu61 := Try.underlying61
    have hS16 : S < 65536 := Nat.lt_of_lt_of_le hS (show 2 ^ N ≤ 2 ^ 16 from Nat.pow_le_pow_right (by decide) hN)
    have hown0 := hown.alloc (gbox N A B Kp)
    have hI0 : RsI w (w.alloc (gbox N A B Kp)) N base A B Kp R G L mb G0 n := ⟨hM.alloc _, blk_new w _, World.grownBy_alloc w _ _, n, D, Nat.le_refl _, hown0, hK⟩
    obtain ⟨hb0, hb1⟩ := boxC hI0.box
    have HI0 := Aside0.mk hI0
    have HK0 := Aside0.mk hK
    have HIH := Aside0.mk ih
    have HST := Aside0.mk hSt
    have hkey : keyOf Try.prog 3 (.int .i64 (S : Int)) = some (.int .i64 (S : Int)) := keyOf_int_mk Try.underlying3 (WalkArith.wf_i64 (by omega))
    have hcall : gval N A B Kp = .agg #[.slice (some ⟨A, 0, none⟩) N Kp.a, .slice (some ⟨B, 0, none⟩) N Kp.b] := rfl
    rw [hcall]
    have HALL := Aside0.mk (rs_all hN hG hS)
    clear hM hSt hK ih hown hI0
    go_enter Try.func41, Try.ntmps41
    obtain ⟨hb, hhb⟩ : ∃ hb, Maps.has D (.int .i64 (S : Int)) = hb := ⟨_, rfl⟩
    cases hb with
    | true =>
      have hko := Aside0.mk (HK0.out.ok S hS16 hhb)
      go_wp2_with (at_lookup; refine wpList_lookup_own_ok_int _ rfl _ _ 56 rfl 3 3 .i64 law3 Try.underlying56 Try.underlying3 (zero3 _) mb n _ rfl hown0 _ _ rfl hkey ?_; intro c hat hwc; rw [hhb])
      go_ret
      refine ⟨?_, World.grownBy_alloc w _ _, n, D, by omega, hown0, HK0.out⟩
      have := hko.out
      rw [hat] at this
      injection this with this
      injection this with _ this
      rw [← this]
      rfl
    | false =>
      have hk0 : 1 + 16 * fcp m = fcp (m + 1) := rfl
      go_wp2_with (at_lookup; refine wpList_lookup_own_ok_int _ rfl _ _ 56 rfl 3 3 .i64 law3 Try.underlying56 Try.underlying3 (zero3 _) mb n _ rfl hown0 _ _ rfl hkey ?_; intro c hat hwc; rw [hhb])
      clear hown0 hb0 hb1 hhb
      go_loopw [10, 11] (fun s10 s11 wr => ∃ v : Nat, ∃ acc : Int, v ≤ N ∧ s11 = .int .i64 (v : Int) ∧ s10 = .int .i64 acc ∧ Aside0 (mx (rsI G0 N S v acc) 0 = nd G0 N S) ∧ Aside0 (RsI w wr N base A B Kp R G L mb G0 (n + v * fcp m))) (fun _ s11 _ => (N - (intOf s11).toNat))
      case atStart => exact ⟨0, -1, by omega, rfl, rfl, HALL, ⟨by rw [Nat.zero_mul]; exact HI0.out⟩⟩
      case round =>
        clear HI0 HALL
        obtain ⟨v, acc, hv, rfl, rfl, HA, HI⟩ := hrel
        by_cases hlt : v < N
        · have hvd : decide (v < N) = true := decide_eq_true hlt
          have hv64 : v < 64 := by omega
          have hst : Aside0 (mx (rsI G0 N S (v + 1) (rsS G0 N S acc v)) 0 = nd G0 N S) := ⟨by rw [← HA.out, rsI_step G0 N S v acc hlt]⟩
          cases htb : S.testBit v with
          | true =>
            have hT : Aside0 (mx (rsI G0 N S (v + 1) acc) 0 = nd G0 N S) := ⟨by
              have := hst.out
              unfold rsS at this
              rwa [if_pos htb] at this⟩
            have HI2 : Aside0 (RsI w wr N base A B Kp R G L mb G0 (n + (v + 1) * fcp m)) := ⟨by
              obtain ⟨n2, D2, h1, h2, h3⟩ := HI.out.map
              exact ⟨HI.out.mat, HI.out.box, HI.out.gro, n2, D2, Nat.le_trans h1 (Nat.add_le_add_left (Nat.mul_le_mul_right _ (Nat.le_succ v)) n), h2, h3⟩⟩
            clear hst HA HI
            go_wp2
            go_roundw
            case rel => exact ⟨v + 1, _, by omega, by go_num, rfl, hT, HI2⟩
            case measure => simp [intOf]; omega
          | false =>
            have hT : Aside0 (mx (rsI G0 N S (v + 1) (if acc < 0 ∨ cst G0 N S v < acc then cst G0 N S v else acc)) 0 = nd G0 N S) := ⟨by
              have := hst.out
              unfold rsS at this
              rwa [if_neg (by rw [htb]; simp)] at this⟩
            have hN0 : 0 < N := by omega
            obtain ⟨wo, hwo⟩ : ∃ wo : World, wo = wr := ⟨_, rfl⟩
            subst hwo
            obtain ⟨hb0, hb1⟩ := boxC HI.out.box
            have hrowL : Kd.C Kd.bool (wo.alloc (.cells #[] 4)) (some ⟨B, 0, none⟩) N (bl N L) := blk_row hN (blk_moveE HI.out.mat.left (Below.heap_alloc wo _ _ (blk_ltE HI.out.mat.left)))
            obtain ⟨hbA0, hbA1⟩ := boxC (blk_alloc HI.out.box (.cells #[] 4))
            clear hst HA
            go_wp2_with (at_builtin; refine Kd.R_append_rows Kd.bool (w0 := wo) wo.heap.size rfl (.tmp 37) (.tmp 39) 59 4 (.bool false) 1 rfl Try.underlying59 info4 rfl (by decide) (by omega) (.slice (some ⟨wo.heap.size, 0, none⟩) 0 0) [] (bl N L) (some ⟨B, 0, none⟩) N Kp.b (fun _ => True) (fun _ => False) rfl rfl ?aO hrowL (fun _ _ h => h) (fun _ hk => hk.elim) (fun _ _ => trivial) ?aB ?aS ?aL ?_; (case aO => exact bool_empty wo); (case aB => exact (Below.refl _ _).alloc (Nat.le_refl _) _); (case aS => exact ((Below.refl _ wo).alloc (Nat.le_refl _) _).size); (case aL => simp; omega); intro v3 w3 ho3 hb3 hg3 hat3; obtain ⟨B2, cB, hv3, hB2, hB2l, hleft⟩ := row_blk hN0 ho3; subst hv3; have hbx3 := boxC (blk_alloc (blk_below HI.out.box hb3) (.cells #[.slice none 0 0, .slice (some ⟨B2, 0, none⟩) N cB] 61)); have hbx30 := hbx3.1)
            have HC0 : CpI wo (w3.alloc (.cells #[.slice none 0 0, .slice (some ⟨B2, 0, none⟩) N cB] 61)) N 0 w3.heap.size B2 cB (fun _ => 0) (fun _ => 0) G L [] (.slice none 0 0) :=
              ⟨Kd.R_nil _ _ _ _ _, rfl, fun i hi => by omega, fun i hi => by omega, fun i j hi => by omega, fun i hi => by omega, fun i hi => by omega, blk_moveE hleft (Below.heap_alloc _ _ _ (blk_ltE hleft)), hB2, blk_new w3 _, hb3.size, hb3.alloc hb3.size _⟩
            have HC0A := Aside0.mk HC0
            clear hb0 hb1 hbA0 hbA1 hrowL ho3 hb3 hg3 hat3 hleft hbx3 hbx30 HC0 hB2 hB2l
            go_loopw [45] (fun s45 wr => ∃ k : Nat, ∃ T : List ST, ∃ sv : Value, ∃ R2 cR2 : Nat → Nat, k ≤ N ∧ s45 = .int .i64 (k : Int) ∧ Aside0 (CpI wo wr N k w3.heap.size B2 cB R2 cR2 G L T sv)) (fun s45 _ => (N - (intOf s45).toNat))
            case atStart => exact ⟨0, [], _, _, _, by omega, rfl, HC0A⟩
            case round =>
              clear HC0A
              obtain ⟨k, T, sv, R2, cR2, hk, rfl, HCa⟩ := hrel
              by_cases hltk : k < N
              · have hkd : decide (k < N) = true := decide_eq_true hltk
                have HC := HCa.out
                have hnc := (HI.out.mat.below HC.bel).nearC k hltk
                have hmq := (HI.out.mat.below HC.bel).drew.alloc (.cells #[] 4)
                have hrow1 := blk_row (X := G k) hN (hmq.row k hltk)
                have hbx := (blk_cell HC.drew_.box 0).trans (rfl : _ = some sv)
                clear hmq
                go_wp2
                go_upto_region 14 with fail
                refine start_ (n := 9) (S := fun w' : World => w'.cell? ⟨w3.heap.size, 0, none⟩ = some sv) (ds := [8]) #[false, false, false, false, false, false, false, false, false] (by kernel_rfl) rfl rfl hbx (fun hHeld => ?_)
                refine with_tabW r41.tab14 r41.bits14 (fun HT_ HW_ => ?_)
                refine pure_ (i := 0) (N := some 49) (v := ?_) (a' := ?_) #[true, false, false, false, false, false, false, false, false] rfl rfl (any_of HT_.out (by kernel_rfl)) (fun _ _ _ h => h) (Or.inl ⟨by rfl, ?_⟩) ?_ ?_
                rotate_left
                · intro w'
                  go_simp
                  with_reducible rfl
                rotate_left
                · simp only [Act.put, List.setIfInBounds_toArray, List.set_cons_zero, List.set_cons_succ, i64_w, i32_w]
                  rfl
                refine pure_ (i := 3) (N := some 52) (v := ?_) (a' := ?_) #[true, false, false, true, false, false, false, false, false] rfl rfl (any_of HT_.out (by kernel_rfl)) (fun _ _ _ h => h) (Or.inl ⟨by rfl, ?_⟩) ?_ ?_
                rotate_left
                · intro w'
                  go_simp
                  with_reducible rfl
                rotate_left
                · simp only [Act.put, List.setIfInBounds_toArray, List.set_cons_zero, List.set_cons_succ, i64_w, i32_w]
                  rfl
                refine take_ (i := 1) (N := some 50) (v := ?_) (a' := ?_) #[true, true, false, true, false, false, false, false, false] rfl rfl (take_ofW HT_.out HW_.out (by kernel_rfl)) (fun _ _ _ h => h) (Or.inl ⟨by rfl, ?_⟩) hHeld ?_ ?_
                rotate_left
                · rintro w' s0
                  go_simp
                  with_reducible rfl
                rotate_left
                · simp only [Act.put, List.setIfInBounds_toArray, List.set_cons_zero, List.set_cons_succ, i64_w, i32_w]
                  rfl
                refine one_ (i := 2) (N := some 51) #[true, true, true, true, false, false, false, false, false] rfl rfl (one_of HT_.out (by kernel_rfl)) (by decide) (fun K hK => ?_)
                refine value_ (w1 := wr.drew.alloc (.cells #[] 4)) (v := .slice (some ⟨wr.drew.heap.size, 0, none⟩) 0 0) (by rfl) rfl (by first | (go_simp; done) | (go_simp; rfl)) ?_
                have HC1 := CpI.alloc_ (HC.drew_) (.cells #[] 4)
                refine hK.out _ _ ((blk_cell HC1.box 0).trans rfl) (fun hHeld => ?_)
                clear hK K
                refine norm_ (a' := ?_) ?_ ?_
                rotate_left
                · simp only [Act.put, List.setIfInBounds_toArray, List.set_cons_zero, List.set_cons_succ]
                  rfl
                refine one_ (i := 4) (N := some 53) #[true, true, true, true, true, false, false, false, false] rfl rfl (one_of HT_.out (by kernel_rfl)) (by decide) (fun K hK => ?_)
                refine Kd.R_append_rows_step Kd.bool (w0 := wr.drew) wr.drew.heap.size rfl (.tmp 51) (.tmp 52) 59 4 (.bool false) 1 rfl Try.underlying59 info4 rfl (by decide) (by omega) (.slice (some ⟨wr.drew.heap.size, 0, none⟩) 0 0) [] (bl N (G k)) (some ⟨R k, 0, none⟩) N (Kp.r k) (fun _ => True) (fun _ => False) rfl rfl ?aO ?aR (fun _ _ h => h) (fun _ hk => hk.elim) (fun _ _ => trivial) ?aB ?aS ?aL ?_
                case aO => exact bool_empty wr.drew
                case aR => exact hrow1
                case aB => exact (Below.refl _ _).alloc (Nat.le_refl _) _
                case aS => exact ((Below.refl _ wr.drew).alloc (Nat.le_refl _) _).size
                case aL => simp; omega
                intro v3 w5 ho3 hb3 hg3 hat3
                have HC3 := HC.drew_.low hb3
                refine hK.out _ _ ((blk_cell HC3.box 0).trans rfl) (fun hHeld => ?_)
                clear hK K hHeld
                obtain ⟨r, cr, hv3, hr0, hr1, hr2⟩ := row_blk hN0 ho3
                subst hv3
                refine norm_ (a' := ?_) ?_ ?_
                rotate_left
                · show Act.put _ (some 53) (.slice (some ⟨r, 0, none⟩) N cr) = _
                  simp only [Act.put, List.setIfInBounds_toArray, List.set_cons_zero, List.set_cons_succ]
                  rfl
                refine one_ (i := 5) (N := some 54) #[true, true, true, true, true, true, false, false, false] rfl rfl (one_of HT_.out (by kernel_rfl)) (by decide) (fun K hK => ?_)
                refine value_ (w1 := w5.alloc (.cells #[.slice (some ⟨r, 0, none⟩) N cr] 59)) (v := .slice (some ⟨w5.heap.size, 0, none⟩) 1 1) (by rfl) rfl (by first | (go_simp; done) | (go_simp; rfl)) ?_
                refine hK.out _ _ ((blk_cell (HC3.alloc_ (.cells #[.slice (some ⟨r, 0, none⟩) N cr] 59)).box 0).trans rfl) (fun hHeld => ?_)
                clear hK K hHeld
                refine norm_ (a' := ?_) ?_ ?_
                rotate_left
                · simp only [Act.put, List.setIfInBounds_toArray, List.set_cons_zero, List.set_cons_succ]
                  rfl
                refine one_ (i := 6) (N := some 55) #[true, true, true, true, true, true, true, false, false] rfl rfl (one_of HT_.out (by kernel_rfl)) (by decide) (fun K hK => ?_)
                refine Kd.R_append_step ks (w0 := wo) wo.heap.size rfl (.tmp 50) (.tmp 54) 58 59 (.slice none 0 0) 24 rfl Try.underlying58 info59 rfl (by decide) (by omega) sv T (some ⟨r, 0, none⟩, N, cr) [.slice (some ⟨r, 0, none⟩) N cr] (fun _ => True) (fun _ => False) rfl rfl ?aP (fun _ hk => hk.elim) ?aF ?aO ?aB ?aS ?aL ?_
                case aP => exact rfl
                case aF => exact (fun _ _ => trivial)
                case aO => exact HC3.near
                case aB => exact HC3.bel
                case aS => exact HC3.bel.size
                case aL => have := HC3.tl; omega
                intro v4 w4 ho4 hb4 hg4 hat4
                have hbx4 : w4.heap[w3.heap.size]? = some (.cells #[sv, .slice (some ⟨B2, 0, none⟩) N cB] 61 (0, 0)) := (hg4.block _ (blk_lt HC3.box) (Kd.R_ne HC3.near HC3.box (by decide))).trans HC3.box
                refine hK.out _ _ ((blk_cell hbx4 0).trans rfl) (fun hHeld => ?_)
                clear hK K hHeld
                refine norm_ (a' := ?_) ?_ ?_
                rotate_left
                · show Act.put _ (some 55) v4 = _
                  simp only [Act.put, List.setIfInBounds_toArray, List.set_cons_zero, List.set_cons_succ]
                  rfl
                refine pure_ (i := 7) (N := some 56) (v := ?_) (a' := ?_) #[true, true, true, true, true, true, true, true, false] rfl rfl (any_of HT_.out (by kernel_rfl)) (fun _ _ _ h => h) (Or.inl ⟨by rfl, ?_⟩) ?_ ?_
                rotate_left
                · intro w'
                  go_simp
                  with_reducible rfl
                rotate_left
                · simp only [Act.put, List.setIfInBounds_toArray, List.set_cons_zero, List.set_cons_succ, i64_w, i32_w]
                  rfl
                refine last_ (i := 8) (N := none) #[true, true, true, true, true, true, true, true, true] rfl rfl (one_of HT_.out (by kernel_rfl)) (by decide) (fun K hK => ?_)
                have hbc4 := (blk_cell hbx4 0).trans rfl
                have hbf4 := blk_frozen hbx4 0
                obtain ⟨A4, c4, hv4⟩ := Kd.R_slice ho4
                rw [show (T ++ [((some ⟨r, 0, none⟩, N, cr) : ST)]).length = T.length + 1 by simp] at hv4
                subst hv4
                refine skip_ (w1 := w4.setCell ⟨w3.heap.size, 0, none⟩ (.slice A4 (T.length + 1) c4)) (by rfl) rfl ?_ ?_
                · go_simp
                  first | done | rfl
                refine hK.out _ _ ?_
                clear hK K
                refine done_ (done_of HT_.out (by kernel_rfl)) ?_

                have hrow3 := blk_moveE hr2 (hg4.block r hr1 (R_neE HC3.near hr2 (by decide)))
                have hne4 := types_neE hbx4 hrow3 (by decide)
                have hold : ∀ (g : Nat) (cs : Array Value), wr.heap[g]? = some (.cells cs 4 (0, 0)) → (w4.setCell ⟨w3.heap.size, 0, none⟩ (.slice A4 (T.length + 1) c4)).heap[g]? = wr.heap[g]? := fun g cs hg => by
                  have hg5 : w5.heap[g]? = some (.cells cs 4 (0, 0)) := (hb3.block g (blk_lt hg)).trans hg
                  have hg6 : w4.heap[g]? = some (.cells cs 4 (0, 0)) := (hg4.block g (blk_lt hg5) (Kd.R_ne HC3.near hg5 (by decide))).trans hg5
                  exact ((Below.heap_setCell w4 ⟨w3.heap.size, 0, none⟩ _ g (types_ne hbx4 hg6 (by decide)).2).trans hg6).trans hg.symm
                have HC5 := Aside0.mk (HC.push (r := r) (cr := cr) hr0 (blk_moveE hrow3 (Below.heap_setCell w4 ⟨w3.heap.size, 0, none⟩ _ r hne4.2)) (Kd.R_mono (Kd.R_set ho4 hbx4 ks_t61 0 _) (fun _ _ => trivial)) hold (blk_set hbx4 0 _) (hb4.grown (gb_set (gb_refl _ _) 0 _) hb4.size (fun q hq => by cases hq; exact HC.baseG)))
                clear hrow3 hne4 hold hbx4 hbc4 hbf4 ho4 hb4 hg4 hat4 hr0 hr1 hr2 ho3 hb3 hg3 hat3 HC3 HC1 HC hnc hrow1 hbx
                go_wp2
                go_roundw
                case rel => exact ⟨k + 1, _, _, _, _, by omega, by go_num, HC5⟩
                case measure => simp [intOf]; omega
              · have hkN : N = k := by omega
                subst hkN
                obtain ⟨A2, cA, rfl, hM2, hbx2⟩ := HCa.out.mat hN0
                have hcl2 : gval N A2 B2 ⟨cA, cB, cR2⟩ = .agg #[.slice (some ⟨A2, 0, none⟩) N cA, .slice (some ⟨B2, 0, none⟩) N cB] := rfl
                have HNb := Aside0.mk (nb_calls hM2 hN v hlt)
                rw [hcl2] at HNb
                obtain ⟨hc0, hc1⟩ := boxC hbx2
                obtain ⟨dv, hdv⟩ : ∃ dv : Nat, bhN G0 v S = dv := ⟨_, rfl⟩
                obtain ⟨qv, hqv⟩ : ∃ qv : Int, nd G0 N (sb S v) = qv := ⟨_, rfl⟩
                obtain ⟨Cv, hCe⟩ : ∃ Cv : Int, cst G0 N S v = Cv := ⟨_, rfl⟩
                have hCv : (if (dv : Int) < qv then qv else (dv : Int)) = Cv := by rw [← hCe, ← hdv, ← hqv]; rfl
                have hdeg := HST.out.deg hN hG hlt htb
                rw [hdv] at hdeg
                have HDEG := Aside0.mk hdeg
                have HQV := Aside0.mk hqv
                have hT2 := hT.out
                rw [hCe] at hT2
                have HT2 := Aside0.mk hT2
                clear hdeg hqv hdv hCe hT2 hT
                go_wp2_with fail
                refine HNb.out.mono ?_
                rintro e w6 ⟨v6, rfl, hR6, hB6⟩
                obtain ⟨a6, c6, rfl, -, -⟩ := Kd.R_reads hR6
                rw [HDEG.out]
                have hM6 := hM2.below hB6
                have hbx6 := blk_below hbx2 hB6
                have hB06 : Below wo.heap.size wo w6 := below_step HCa.out.bel hB6
                clear HNb hR6 hB6 hM2 hbx2 hc0 hc1
                obtain ⟨hc0, hc1⟩ := boxC hbx6
                have HOu := Aside0.mk (out_calls hM6 hN v hlt)
                rw [hcl2] at HOu
                go_wp2_with fail
                refine HOu.out.mono ?_
                rintro e w7 ⟨rfl, hM7, hO7⟩
                have hbx7a : w7.heap[w3.heap.size]? = some (gbox N A2 B2 ⟨cA, cB, cR2⟩) := (hO7.block _ (blk_lt hbx6) (types_neE hbx6 hM6.left (by decide)).1 (fun i hi => (types_neE hbx6 (hM6.row i hi) (by decide)).1)).trans hbx6
                have hB07 : Below wo.heap.size wo w7 := hB06.trans (hO7.below hB06.size hM6.baseB hM6.baseR)
                have hB7d : Below wo.heap.size wo w7.drew := below_drew hB07
                obtain ⟨n2, D2, hn2, how2, hk2⟩ := HI.out.map
                have hown7 : w7.drew.ownsMap Try.prog 3 (plainElem Try.prog 3) mb n2 D2 := (how2.kept (grown_of_below hB07 none) (by simp)).drew
                have hczS := cz0_sb hlt htb
                obtain ⟨m1, rfl⟩ : ∃ m1, m = m1 + 1 := ⟨m - 1, by omega⟩
                have hq1 : (v + 1) * fcp (m1 + 1) ≤ 16 * fcp (m1 + 1) := Nat.mul_le_mul_right _ (by omega)
                have hq2 : fcp (m1 + 1 + 1) = 1 + 16 * fcp (m1 + 1) := rfl
                have hq3 : (v + 1) * fcp (m1 + 1) = v * fcp (m1 + 1) + fcp (m1 + 1) := by rw [Nat.add_mul, Nat.one_mul]
                have HR := Aside0.mk (HIH.out m1 (by omega) (sb S v) hM7.drew (HST.out.step hN hG hlt htb) (sb_pow hS hlt) (by omega) hown7 hk2 (by omega))
                rw [hcl2, HQV.out] at HR
                have hbx7 : w7.drew.heap[w3.heap.size]? = some (gbox N A2 B2 ⟨cA, cB, cR2⟩) := hbx7a
                clear hc0 hc1
                obtain ⟨hc0, hc1⟩ := boxC hbx7
                have hsM : sb S v < 2 ^ N := sb_pow hS hlt
                have hpv := wrap_pow (show v < 16 by omega)
                have hor := or_pows S v (by omega) (by omega)
                have hwr : True := trivial
                clear HOu hM6 hbx6 hB06 hM7 hO7 hbx7a
                go_wp2
                go_upto_region 18 with fail
                refine start_ (n := 10) (S := fun w' : World => w'.cell? ⟨w3.heap.size, 0, none⟩ = some (.slice (some ⟨A2, 0, none⟩) N cA) ∧ w'.cell? ⟨w3.heap.size, 1, none⟩ = some (.slice (some ⟨B2, 0, none⟩) N cB)) (ds := []) #[false, false, false, false, false, false, false, false, false, false] (by kernel_rfl) rfl rfl ⟨hc0, hc1⟩ (fun hHeld => ?_)
                refine with_tabW r418.tab18 r418.bits18 (fun HT_ HW_ => ?_)
                refine pure_ (i := 0) (N := some 65) (v := ?_) (a' := ?_) #[true, false, false, false, false, false, false, false, false, false] rfl rfl (any_of HT_.out (by kernel_rfl)) (fun _ _ _ h => h) (Or.inl ⟨by rfl, ?_⟩) ?_ ?_
                rotate_left
                · intro w'
                  go_simp
                  with_reducible rfl
                rotate_left
                · simp only [Act.put, List.setIfInBounds_toArray, List.set_cons_zero, List.set_cons_succ, i64_w, i32_w, hwr]
                  rfl
                refine pure_ (i := 2) (N := some 67) (v := ?_) (a' := ?_) #[true, false, true, false, false, false, false, false, false, false] rfl rfl (any_of HT_.out (by kernel_rfl)) (fun _ _ _ h => h) (Or.inl ⟨by rfl, ?_⟩) ?_ ?_
                rotate_left
                · intro w'
                  go_simp
                  with_reducible rfl
                rotate_left
                · simp only [Act.put, List.setIfInBounds_toArray, List.set_cons_zero, List.set_cons_succ, i64_w, i32_w, hwr]
                  rfl
                refine pure_ (i := 3) (N := some 68) (v := ?_) (a' := ?_) #[true, false, true, true, false, false, false, false, false, false] rfl rfl (any_of HT_.out (by kernel_rfl)) (fun _ _ _ h => h) (Or.inl ⟨by rfl, ?_⟩) ?_ ?_
                rotate_left
                · intro w'
                  go_simp
                  with_reducible rfl
                rotate_left
                · simp only [Act.put, List.setIfInBounds_toArray, List.set_cons_zero, List.set_cons_succ, i64_w, i32_w, hwr]
                  rfl
                refine pure_ (i := 4) (N := some 69) (v := ?_) (a' := ?_) #[true, false, true, true, true, false, false, false, false, false] rfl rfl (any_of HT_.out (by kernel_rfl)) (fun _ _ _ h => h) (Or.inl ⟨by rfl, ?_⟩) ?_ ?_
                rotate_left
                · intro w'
                  go_simp
                  with_reducible rfl
                rotate_left
                · simp only [Act.put, List.setIfInBounds_toArray, List.set_cons_zero, List.set_cons_succ, i64_w, i32_w, hwr]
                  rfl
                refine pure_ (i := 5) (N := some 70) (v := ?_) (a' := ?_) #[true, false, true, true, true, true, false, false, false, false] rfl rfl (any_of HT_.out (by kernel_rfl)) (fun _ _ _ h => h) (Or.inl ⟨by rfl, ?_⟩) ?_ ?_
                rotate_left
                · intro w'
                  go_simp
                  with_reducible rfl
                rotate_left
                · simp only [Act.put, List.setIfInBounds_toArray, List.set_cons_zero, List.set_cons_succ, i64_w, i32_w, hwr]
                  rfl
                refine pure_ (i := 6) (N := some 71) (v := ?_) (a' := ?_) #[true, false, true, true, true, true, true, false, false, false] rfl rfl (any_of HT_.out (by kernel_rfl)) (fun _ _ _ h => h) (Or.inl ⟨by rfl, ?_⟩) ?_ ?_
                rotate_left
                · intro w'
                  go_simp
                  with_reducible rfl
                rotate_left
                · simp only [Act.put, List.setIfInBounds_toArray, List.set_cons_zero, List.set_cons_succ, i64_w, i32_w, hwr]
                  rfl
                refine take_ (i := 1) (N := some 66) (v := ?_) (a' := ?_) #[true, true, true, true, true, true, true, false, false, false] rfl rfl (take_ofW HT_.out HW_.out (by kernel_rfl)) (fun _ _ _ h => h) (Or.inl ⟨by rfl, ?_⟩) hHeld ?_ ?_
                rotate_left
                · rintro w' ⟨s0, s1⟩
                  go_simp
                  with_reducible rfl
                rotate_left
                · simp only [Act.put, List.setIfInBounds_toArray, List.set_cons_zero, List.set_cons_succ, i64_w, i32_w, hwr]
                  rfl
                refine one_ (i := 7) (N := some 72) #[true, true, true, true, true, true, true, true, false, false] rfl rfl (one_of HT_.out (by kernel_rfl)) (by decide) (fun K hK => ?_)
                refine goes_ Try.func41 (by kernel_rfl) rfl #[.agg #[.slice (some ⟨A2, 0, none⟩) N cA, .slice (some ⟨B2, 0, none⟩) N cB], .int .i64 (sb S v : Nat), .map (some mb)] (by rfl) rfl rfl (by simp only [List.map_toArray, List.map_cons, List.map_nil]; rfl) ?_
                refine HR.out.mono ?_
                rintro e w8 ⟨rfl, hG8, hD8⟩
                refine ⟨_, rfl, ?_⟩
                have hbx8 : w8.heap[w3.heap.size]? = some (gbox N A2 B2 ⟨cA, cB, cR2⟩) := (hG8.block _ (blk_lt hbx7) (fun e => map_ne hown7 hbx7 (Option.some.inj e))).trans hbx7
                obtain ⟨hd0, hd1⟩ := boxC hbx8
                refine hK.out _ _ ⟨hd0, hd1⟩ (fun hHeld => ?_)
                clear hK K hd0 hd1
                refine pure_ (i := 8) (N := some 73) (v := ?_) (a' := ?_) #[true, true, true, true, true, true, true, true, true, false] rfl rfl (any_of HT_.out (by kernel_rfl)) (fun _ _ _ h => h) (Or.inl ⟨by rfl, ?_⟩) ?_ ?_
                rotate_left
                · intro w'
                  go_simp
                  with_reducible rfl
                rotate_left
                · simp only [Act.put, List.setIfInBounds_toArray, List.set_cons_zero, List.set_cons_succ, i64_w, i32_w, hwr]
                  rfl
                refine pure_ (i := 9) (N := some 15) (v := ?_) (a' := ?_) #[true, true, true, true, true, true, true, true, true, true] rfl rfl (any_of HT_.out (by kernel_rfl)) (fun _ _ _ h => h) (Or.inl ⟨by rfl, ?_⟩) ?_ ?_
                rotate_left
                · intro w'
                  go_simp
                  with_reducible rfl
                rotate_left
                · simp only [Act.put, List.setIfInBounds_toArray, List.set_cons_zero, List.set_cons_succ, i64_w, i32_w, hwr]
                  rfl
                refine done_ (done_of HT_.out (by kernel_rfl)) ?_

                obtain ⟨n3, D3, hn3, how3, hk3⟩ := hD8
                have HI2 : Aside0 (RsI w w8 N base A B Kp R G L mb G0 (n + (v + 1) * fcp (m1 + 1))) := ⟨(HI.out.mat.below hB7d).mapped hown7 hG8, (hG8.block _ (blk_lt (blk_below HI.out.box hB7d)) (fun e => map_ne hown7 (blk_below HI.out.box hB7d) (Option.some.inj e))).trans (blk_below HI.out.box hB7d), (HI.out.gro.trans (grown_of_below hB7d (some mb))).trans hG8, n3, D3, by omega, how3, hk3⟩
                clear hn3 how3 hk3 hG8 hbx8 hbx7 HR hc0 hc1 hown7 hk2 how2 hn2 hB7d hB07 HI HCa hCv hq1 hq2 hq3
                by_cases h1 : acc < 0
                · have h1d : decide (acc < 0) = true := decide_eq_true h1
                  have hT3 : Aside0 (mx (rsI G0 N S (v + 1) Cv) 0 = nd G0 N S) := ⟨by have := HT2.out; rwa [if_pos (Or.inl h1)] at this⟩
                  go_wp2
                  go_roundw
                  case rel => exact ⟨v + 1, _, by omega, by go_num, rfl, hT3, HI2⟩
                  case measure => simp [intOf]; omega
                · have h1d : decide (acc < 0) = false := decide_eq_false h1
                  by_cases h2 : Cv < acc
                  · have h2d : decide (Cv < acc) = true := decide_eq_true h2
                    have hT3 : Aside0 (mx (rsI G0 N S (v + 1) Cv) 0 = nd G0 N S) := ⟨by have := HT2.out; rwa [if_pos (Or.inr h2)] at this⟩
                    go_wp2
                    go_roundw
                    case rel => exact ⟨v + 1, _, by omega, by go_num, rfl, hT3, HI2⟩
                    case measure => simp [intOf]; omega
                  · have h2d : decide (Cv < acc) = false := decide_eq_false h2
                    have hT3 : Aside0 (mx (rsI G0 N S (v + 1) acc) 0 = nd G0 N S) := ⟨by
                      have := HT2.out
                      rwa [if_neg (fun h => h.elim h1 h2)] at this⟩
                    go_wp2
                    go_roundw
                    case rel => exact ⟨v + 1, _, by omega, by go_num, rfl, hT3, HI2⟩
                    case measure => simp [intOf]; omega
        · have hvN : N = v := by omega
          subst hvN
          have hA2 := HA.out
          rw [rsI_end] at hA2
          have hqN := nd_le (G := G0) hS
          obtain ⟨q, hq⟩ : ∃ q : Int, nd G0 N S = q := ⟨_, rfl⟩
          have HQ := Aside0.mk hq
          rw [hq] at hA2 hqN
          have hq0 : 0 ≤ q := by rw [← hA2]; exact le_mx_r _ _
          have hm0 : (if acc < 0 then (0 : Int) else acc) = q := hA2
          obtain ⟨n2, D2, hn2, how2, hk2⟩ := HI.out.map
          have hbound : n2 < maxLen := by
            have h1 : N * fcp m ≤ 16 * fcp m := Nat.mul_le_mul_right _ hN
            omega
          have HB2 := Aside0.mk (show n2 + 1 ≤ n + fcp (m + 1) by
            have h1 : N * fcp m ≤ 16 * fcp m := Nat.mul_le_mul_right _ hN
            omega)
          have HK2 := Aside0.mk hk2
          have HGR := Aside0.mk HI.out.gro
          have HM2 := Aside0.mk how2.isMap
          clear hq HA hA2 HI hk2
          go_wp2_with (first | (at_mapUpdate; refine wpList_mapUpdate_own _ rfl _ _ _ 56 rfl 3 3 law3 Try.underlying56 _ mb n2 _ rfl how2 hbound _ _ _ rfl rfl hkey _ [] (plainElem_int Try.underlying3 (WalkArith.wf_i64 (by omega))) ?_; intro w5 hown5 hgrow5) | (at_lookup; refine wpList_lookup_own_int _ rfl _ _ 56 rfl 3 3 .i64 law3 Try.underlying56 Try.underlying3 (zero3 _) mb (n2 + 1) _ rfl hown5 _ _ rfl hkey ?_; intro c2 hat2 hwc2))
          go_ret
          have hput := HK2.out.put HM2.out S
          rw [HQ.out] at hput
          refine ⟨?_, HGR.out.trans hgrow5, n2 + 1, _, HB2.out, hown5, hput⟩
          have h3 := (Maps.atKey_put_same HM2.out (key_int (S : Int)) (.lit (.int .i64 q)) (.lit (.int .i64 0))).symm.trans hat2
          injection h3 with h3
          injection h3 with _ h3
          rw [HQ.out, h3]
          rfl
end
section
set_option linter.unusedVariables false
set_option linter.unusedSimpArgs false
open Go.RowKit Go.Maps Go.Proofs.YtnnaakinchophaaW.PrintWords Go.Proofs.YtnnaakinchophaaW.PrintLast Go.Proofs.YtnnaakinchophaaW.PrintMore
def r164.T14 : Bool × List (List Nat × List Nat) := (true, [([], []), ([], []), ([0, 1], [0, 1]), ([2], [2]), ([], []), ([], []), ([4, 5, 2], [4, 5]), ([], []), ([], []), ([8], [8]), ([7, 9], [7, 9]), ([6, 10, 6], [6, 10]), ([], []), ([], []), ([13], [13]), ([12, 14], [12, 14]), ([], []), ([11, 15, 16, 11], [11, 15, 16]), ([3, 17], [3, 17]), ([18, 17, 0, 1, 2, 3, 4, 5, 6, 7, 8, 9, 10, 11, 12, 13, 14, 15, 16, 17, 18], [18])])
def r164.B14 : List Nat := [0, 0, 3, 7, 0, 0, 55, 0, 0, 256, 896, 2039, 0, 0, 8192, 28672, 0, 131063, 262143, 524287]
theorem r164.tab14 : rtab .any (opsOf Try.f16 14) = r164.T14 := by kernel_rfl
theorem r164.bits14 : waitsOk r164.T14.2 r164.B14 = true := by kernel_rfl
def r166.T16 : Bool × List (List Nat × List Nat) := (true, [([], []), ([], []), ([1], [1]), ([0, 2], [0, 2]), ([], []), ([], []), ([5], [5]), ([4, 6], [4, 6]), ([3, 3, 0, 1, 2, 3], [0, 3]), ([7, 8, 0, 1, 2, 3, 4, 5, 6, 7, 8], [4, 7])])
def r166.B16 : List Nat := [0, 0, 2, 7, 0, 0, 32, 112, 15, 511]
theorem r166.tab16 : rtab .any (opsOf Try.f16 16) = r166.T16 := by kernel_rfl
theorem r166.bits16 : waitsOk r166.T16.2 r166.B16 = true := by kernel_rfl
theorem fcp_mono : ∀ {a b : Nat}, a ≤ b → fcp a ≤ fcp b
  | 0, _, _ => Nat.zero_le _
  | a + 1, 0, h => by omega
  | a + 1, b + 1, h => by
    have := fcp_mono (a := a) (b := b) (by omega)
    show 1 + 16 * fcp a ≤ 1 + 16 * fcp b
    omega
theorem cz0_le (N S : Nat) : cz0 N S ≤ N := by
  unfold cz0
  exact Nat.le_trans (List.length_filter_le _ _) (by simp)
/-- Best under way. -/
structure BsI (w wr : World) (N gb A B : Nat) (R H : Nat → Nat) (L mb : Nat) (G0 : Nat → Nat) (S : Nat) (s : Value) (x : List Int) (M : Nat) : Prop where
  mat : Mat wr N w.heap.size A B ⟨N, N, fun _ => N⟩ R H L
  st : St N G0 S H L
  box : wr.heap[gb]? = some (gbox N A B ⟨N, N, fun _ => N⟩)
  row : Kd.R (Kd.int .i64) 3 wr w.heap.size (fun _ => True) s x
  bel : Below w.heap.size w wr
  map : ∃ (n : Nat) (D : DataW Unit), n ≤ M ∧ wr.ownsMap Try.prog 3 (plainElem Try.prog 3) mb n D ∧ Kept G0 N D
  mbw : w.heap.size ≤ mb
theorem BsI.low {w wr w1 : World} {N gb A B : Nat} {R H : Nat → Nat} {L mb : Nat} {G0 : Nat → Nat} {S : Nat} {s : Value} {x : List Int} {M : Nat} (h : BsI w wr N gb A B R H L mb G0 S s x M) (hb : Below wr.heap.size wr w1) : BsI w w1 N gb A B R H L mb G0 S s x M := by
  obtain ⟨n, D, h1, h2, h3⟩ := h.map
  exact ⟨h.mat.below hb, h.st, blk_below h.box hb, Kd.R_below h.row hb, below_step h.bel hb, ⟨n, D, h1, h2.kept (grown_of_below hb none) (by simp), h3⟩, h.mbw⟩
theorem BsI.more {w wr : World} {N gb A B : Nat} {R H : Nat → Nat} {L mb : Nat} {G0 : Nat → Nat} {S : Nat} {s : Value} {x : List Int} {M M2 : Nat} (h : BsI w wr N gb A B R H L mb G0 S s x M) (hM : M ≤ M2) : BsI w wr N gb A B R H L mb G0 S s x M2 := by
  obtain ⟨n, D, h1, h2, h3⟩ := h.map
  exact ⟨h.mat, h.st, h.box, h.row, h.bel, ⟨n, D, Nat.le_trans h1 hM, h2, h3⟩, h.mbw⟩
theorem BsI.mapped {w wr w1 : World} {N gb A B : Nat} {R H : Nat → Nat} {L mb : Nat} {G0 : Nat → Nat} {S : Nat} {s : Value} {x : List Int} {M M2 n0 : Nat} {D0 : DataW Unit} (h : BsI w wr N gb A B R H L mb G0 S s x M) (hm : wr.ownsMap Try.prog 3 (plainElem Try.prog 3) mb n0 D0) (hg : wr.grownBy w1 (some mb)) (n : Nat) (D : DataW Unit) (hn : n ≤ M2) (how : w1.ownsMap Try.prog 3 (plainElem Try.prog 3) mb n D) (hk : Kept G0 N D) : BsI w w1 N gb A B R H L mb G0 S s x M2 :=
  ⟨h.mat.mapped hm hg, h.st, (hg.block _ (blk_lt h.box) (fun e => map_ne hm h.box (Option.some.inj e))).trans h.box,
   Kd.R_mono (Kd.R_move (Kd.R_bound h.row) (fun k hk => hg.block k hk.2.2.1 (fun e => by
     obtain ⟨_, _, _, q, _, cells, hc⟩ := hk
     exact map_ne hm hc (Option.some.inj e)))) (fun _ _ => trivial),
   h.bel.grown hg h.bel.size (fun k hk => by cases hk; exact h.mbw), ⟨n, D, hn, how, hk⟩, h.mbw⟩
theorem BsI.push {w W w1 : World} {N gb A B : Nat} {R H : Nat → Nat} {L mb : Nat} {G0 : Nat → Nat} {S : Nat} {s v1 : Value} {x x2 : List Int} {M : Nat} (h : BsI w W N gb A B R H L mb G0 S s x M) (ho : Kd.R (Kd.int .i64) 3 w1 w.heap.size (fun _ => True) v1 x2) (hb : Below w.heap.size w w1) (hg : W.grownBy w1 s.ownBlock) : BsI w w1 N gb A B R H L mb G0 S v1 x2 M := by
  obtain ⟨n, D, h1, h2, h3⟩ := h.map
  refine ⟨h.mat.grown hg (R_neE h.row h.mat.near (by decide)) (R_neE h.row h.mat.left (by decide)) (fun i hi => R_neE h.row (h.mat.row i hi) (by decide)), h.st, (hg.block _ (blk_lt h.box) (Kd.R_ne h.row h.box (by decide))).trans h.box, ho, hb, ⟨n, D, h1, h2.kept hg (fun e => ?_), h3⟩, h.mbw⟩
  obtain ⟨inner, hown⟩ := Kd.R_own h.row
  obtain ⟨cells, hc⟩ := own_typed hown mb e.symm
  exact map_ne h2 hc rfl
theorem BsI.out {w wr w1 : World} {N gb A B : Nat} {R H H2 : Nat → Nat} {L L2 mb : Nat} {G0 : Nat → Nat} {S S2 : Nat} {s : Value} {x : List Int} {M : Nat} (h : BsI w wr N gb A B R H L mb G0 S s x M) (hm : Mat w1 N w.heap.size A B ⟨N, N, fun _ => N⟩ R H2 L2) (ho : OutK wr w1 N B R) (hs : St N G0 S2 H2 L2) : BsI w w1 N gb A B R H2 L2 mb G0 S2 s x M := by
  obtain ⟨n, D, h1, h2, h3⟩ := h.map
  refine ⟨hm, hs, (ho.block gb (blk_lt h.box) (types_neE h.box h.mat.left (by decide)).1 (fun i hi => (types_neE h.box (h.mat.row i hi) (by decide)).1)).trans h.box, R_out h.row h.mat ho int_types4, h.bel.trans (ho.below h.bel.size h.mat.baseB h.mat.baseR), ⟨n, D, h1, ?_, h3⟩, h.mbw⟩
  obtain ⟨es, clock, hb, F, hsz, hD⟩ := h2
  refine ⟨es, clock, (ho.block mb ?_ ?_ ?_).trans hb, F, hsz, hD⟩
  · exact (Array.getElem?_eq_some_iff.1 hb).1
  · exact fun e => map_neE ⟨es, clock, hb, F, hsz, hD⟩ h.mat.left e.symm
  · exact fun i hi e => map_neE ⟨es, clock, hb, F, hsz, hD⟩ (h.mat.row i hi) e.symm
attribute [local go_sem] bit0s bit1s max2_int min2_int max_two min_two
set_option maxHeartbeats 8000000 in
set_option maxRecDepth 100000 in
theorem rbest_calls (n : Int) (A : Option Addr) (c : Nat) (l : List (List Int)) (r1 : List Int) (r2 r3 : Int) (w : World) (hr : Kd.C kl w A l.length l) (hc : l.length ≤ c) (hB : bestF n l = some (r1, r2, r3)) :
    Calls Try.prog 16 #[.int .i64 n, .slice A l.length c] w fun e w' => ∃ v0, e = .returned (.tuple #[v0, .int .i64 r2, .int .i64 r3]) ∧ Kd.R (Kd.int .i64) 3 w' w.heap.size (fun _ => True) v0 r1 ∧ Below w.heap.size w w' := by
  have hu61 := Try.underlying61
  have HC := Aside0.mk (rright_calls n A c l w hr)
  cases hR : rightF n l with
  | false =>
    have hB2 : ([], 0, 1) = (r1, r2, r3) := by
      unfold bestF at hB
      rw [hR] at hB
      exact Option.some.inj hB
    obtain ⟨rfl, h2⟩ := Prod.mk.inj hB2
    obtain ⟨rfl, rfl⟩ := Prod.mk.inj h2
    rw [hR] at HC
    clear hr hR hB hB2 h2
    go_enter Try.func16, Try.ntmps16
    go_wp2_with fail
    refine HC.out.mono ?_
    rintro e w1 ⟨rfl, rfl⟩
    go_wp2
    go_ret3
    exact ⟨_, rfl, Kd.R_nil _ _ _ _ _, Below.refl _ _⟩
  | true =>
    have hT := rightF_true hR
    obtain ⟨N, rfl⟩ := Int.eq_ofNat_of_zero_le hT.1
    by_cases hN10 : N ≤ 10
    · have hN : N ≤ 16 := by omega
      have hv : ∀ x ∈ l, ∀ v ∈ x, 0 ≤ v ∧ v < (N : Int) := fun x hx v hv => (hT.2.2.2 x hx).2 v hv
      have hG : Gr N (ofG l) := ofG_gr hv
      have hB2 : bestG (ofG l) N = some (r1, r2) ∧ r3 = 0 := by
        unfold bestF at hB
        rw [hR, if_pos rfl, if_pos (by omega), Int.toNat_natCast] at hB
        obtain ⟨p, hp, he⟩ := Option.map_eq_some_iff.1 hB
        obtain ⟨p1, p2⟩ := p
        injection he with h1 h2
        injection h2 with h2 h3
        subst h1; subst h2; subst h3
        exact ⟨hp, rfl⟩
      obtain ⟨hB3, rfl⟩ := hB2
      unfold bestG at hB3
      obtain ⟨fin, hsel, he⟩ := Option.map_eq_some_iff.1 hB3
      injection he with h1 h2
      subst h1
      rw [hR] at HC
      have hle10 : decide ((10 : Int) < (N : Int)) = false := decide_eq_false (by omega)
      have HV := Aside0.mk hv
      have HR := Aside0.mk hr
      have HSEL := Aside0.mk hsel
      have hSt0 := St.start hN hv
      obtain ⟨Q, hQ⟩ : ∃ Q, fcp (N + 1) = Q := ⟨_, rfl⟩
      have hQ11 : Q ≤ 1172812402961 := by
        rw [← hQ]
        exact Nat.le_trans (fcp_mono (show N + 1 ≤ 11 by omega)) (by decide)
      have HQ := Aside0.mk hQ
      obtain ⟨G0, hG0⟩ : ∃ G0, ofG l = G0 := ⟨_, rfl⟩
      have HG0 := Aside0.mk hG0
      have hnd : nd G0 N 0 = r2 := by rw [← hG0]; exact h2
      have HND := Aside0.mk hnd
      have hmx : maxLen = 9223372036854775807 := rfl
      have hcz00 := cz0_le N 0
      have HRf := Aside0.mk (fun W h => rof_calls N A c l W h hc hN hv)
      rw [hG0] at HRf HSEL hSt0 hG
      have HST0 := Aside0.mk hSt0
      clear hr hR hB hB3 hsel h2 hT hv hQ hSt0 hG0 hnd
      have hmm := @run_makeMap Try.prog
      go_enter Try.func16, Try.ntmps16
      go_wp2_with fail
      refine HC.out.mono ?_
      rintro e w1 ⟨rfl, rfl⟩
      clear HC
      go_wp2_with fail
      have hown1 : (w1.alloc (.map #[] 0)).ownsMap Try.prog 3 (plainElem Try.prog 3) w1.heap.size 0 (.map [] : DataW Unit) := World.ownsMap_made _ _ _ _
      have hbm : Below w1.heap.size w1 (w1.alloc (.map #[] 0)) := (Below.refl _ _).alloc (Nat.le_refl _) _
      have HR1 := Aside0.mk (Kd.C_below HR.out hbm)
      refine (HRf.out _ HR1.out).mono ?_
      rintro e w2 ⟨A1, B1, R1, rfl, hM1, hB1⟩
      have hown2 := hown1.kept (grown_of_below hB1 none) (by simp)
      have hB02 : Below w1.heap.size w1 w2 := below_step hbm hB1
      have hcl1 : gval N A1 B1 ⟨N, N, fun _ => N⟩ = .agg #[.slice (some ⟨A1, 0, none⟩) N N, .slice (some ⟨B1, 0, none⟩) N N] := rfl
      have HRs := Aside0.mk (rest_calls hN hG (cz0 N 0) 0 (ofMat hM1) HST0.out (Nat.two_pow_pos _) rfl hown2 (Kept.empty G0 N) (by have := fcp_mono (show cz0 N 0 + 1 ≤ N + 1 by omega); have := HQ.out; omega))
      rw [hcl1, HND.out] at HRs
      have HR2 := Aside0.mk (Kd.C_below HR1.out hB1)
      clear hown1 hbm HR1 hM1 hB1
      go_wp2_with fail
      refine HRs.out.mono ?_
      rintro e w3 ⟨rfl, hG3, n3, D3, hn3, how3, hk3⟩
      have hB03 : Below w1.heap.size w1 w3 := hB02.grown hG3 hB02.size (fun k hk => by cases hk; exact Nat.le_refl _)
      have HR3 := Aside0.mk (Kd.C_below HR.out hB03)
      have hn3Q : n3 ≤ 1 * Q := by have := fcp_mono (show cz0 N 0 + 1 ≤ N + 1 by omega); have := HQ.out; omega
      clear HRs hown2 hG3 hn3 HR2 hB02
      have hbl : Below w3.heap.size w3 (w3.alloc (.cells #[] 3)) := (Below.refl _ _).alloc (Nat.le_refl _) _
      have hI0 : Kd.R (Kd.int .i64) 3 (w3.alloc (.cells #[] 3)) w1.heap.size (fun _ => True) (.slice (some ⟨w3.heap.size, 0, none⟩) 0 0) [] := Kd.R_of_own (by
        have h := own_lit w3 w1.heap.size 3 .i64 [] hB03.size (by decide)
        exact h) (fun _ _ => trivial)
      have HR4 := Aside0.mk (Kd.C_below HR3.out hbl)
      go_wp2_with fail
      refine (HRf.out _ HR4.out).mono ?_
      rintro e w5 ⟨A2, B2, R2, rfl, hM2, hB2⟩
      have hbx : (w5.alloc (gbox N A2 B2 ⟨N, N, fun _ => N⟩)).heap[w5.heap.size]? = some (gbox N A2 B2 ⟨N, N, fun _ => N⟩) := blk_new w5 _
      have hb35 : Below w3.heap.size w3 w5 := below_step hbl hB2
      have hb5a : Below w5.heap.size w5 (w5.alloc (gbox N A2 B2 ⟨N, N, fun _ => N⟩)) := (Below.refl _ _).alloc (Nat.le_refl _) _
      have HI0 := Aside0.mk (show BsI w1 (w5.alloc (gbox N A2 B2 ⟨N, N, fun _ => N⟩)) N w5.heap.size A2 B2 R2 G0 (2 ^ N - 1) w1.heap.size G0 0 (.slice (some ⟨w3.heap.size, 0, none⟩) 0 0) [] (1 * Q) from
        ⟨((ofMat hM2).lower (by have := hB03.size; simp; omega)).below hb5a, HST0.out, hbx, Kd.R_below (Kd.R_below hI0 hB2) hb5a, below_step (below_step hB03 hb35) hb5a, ⟨n3, D3, hn3Q, (how3.kept (grown_of_below hb35 none) (by simp)).kept (grown_of_below hb5a none) (by simp), hk3⟩, Nat.le_refl _⟩)
      clear hbx hb35 hb5a hM2 hB2 HR4 hI0 hbl how3 hk3 hn3Q HR3 hB03
      go_wp2
      go_loopw [9, 11, 33] (fun s9 s11 s33 wr => ∃ k : Nat, ∃ x : List Int, ∃ H : Nat → Nat, ∃ L2 : Nat, k ≤ N ∧ s33 = .int .i64 (k : Int) ∧ s11 = .int .i64 (mk x : Nat) ∧ Aside0 (OdP N x ∧ x.length = k) ∧ Aside0 (selL G0 N (needF G0 N) (N - k) (mk x) x = some fin) ∧ Aside0 (BsI w1 wr N w5.heap.size A2 B2 R2 H L2 w1.heap.size G0 (mk x) s9 x ((1 + k * 16) * Q))) (fun _ _ s33 _ => (N - (intOf s33).toNat))
      case atStart => exact ⟨0, [], G0, _, by omega, rfl, rfl, ⟨⟨List.nodup_nil, fun x hx => absurd hx List.not_mem_nil, Nat.zero_le _⟩, rfl⟩, HSEL, HI0⟩
      case round =>
        clear HI0 HSEL
        obtain ⟨k, x, H, L2, hk, rfl, rfl, HP, HSL, HI⟩ := hrel
        by_cases hlt : k < N
        · have hkd : decide (k < N) = true := decide_eq_true hlt
          have hx0 : ∀ y ∈ x, 0 ≤ y := fun y hy => (HP.out.1.rg y hy).1
          have hSN : mk x < 2 ^ N := mk_lt HP.out.1.rg
          have hst : Aside0 ((match (List.range N).find? (selP G0 (needF G0 N) (mk x)) with | none => none | some v => selL G0 N (needF G0 N) (N - (k + 1)) (sb (mk x) v) (x ++ [(v : Int)])) = some fin) := ⟨by
            rw [← HSL.out, show N - k = (N - (k + 1)) + 1 by omega]
            rfl⟩
          have HX0 := Aside0.mk hx0
          have HXL := Aside0.mk (show x.length ≤ 16 by have := HP.out.2; omega)
          clear hx0 HSL
          obtain ⟨A9, c9, hs9⟩ := Kd.R_slice HI.out.row
          subst hs9
          have HI1 : Aside0 (BsI w1 wr N w5.heap.size A2 B2 R2 H L2 w1.heap.size G0 (mk x) (.slice A9 x.length c9) x ((1 + k * 16 + 0) * Q)) := HI
          clear HI
          go_wp2
          go_loopw [9, 11, 12] (fun s9 s11 s12 wr => ∃ v : Nat, v ≤ N ∧ s12 = .int .i64 (v : Int) ∧ s9 = .slice A9 x.length c9 ∧ s11 = .int .i64 (mk x : Nat) ∧ Aside0 (∀ u, u < v → selP G0 (needF G0 N) (mk x) u = false) ∧ Aside0 (BsI w1 wr N w5.heap.size A2 B2 R2 H L2 w1.heap.size G0 (mk x) (.slice A9 x.length c9) x ((1 + k * 16 + v) * Q))) (fun _ _ s12 _ => (N - (intOf s12).toNat))
          case atStart => exact ⟨0, by omega, rfl, rfl, rfl, ⟨fun u hu => by omega⟩, HI1⟩
          case round =>
            clear HI1
            obtain ⟨v, hv, rfl, rfl, rfl, HF, HI⟩ := hrel
            by_cases hltv : v < N
            · have hvd : decide (v < N) = true := decide_eq_true hltv
              have hv64 : v < 64 := by omega
              have hx16 : mk x < 65536 := Nat.lt_of_lt_of_le hSN (show 2 ^ N ≤ 2 ^ 16 from Nat.pow_le_pow_right (by decide) hN)
              have hmono : (1 + k * 16 + v) * Q ≤ (1 + k * 16 + (v + 1)) * Q := Nat.mul_le_mul_right _ (by omega)
              have hmadd : (1 + k * 16 + v) * Q + Q = (1 + k * 16 + (v + 1)) * Q := by rw [show 1 + k * 16 + (v + 1) = (1 + k * 16 + v) + 1 by omega, Nat.add_mul _ 1, Nat.one_mul]
              cases htb : (mk x).testBit v with
              | true =>
                have HF2 : Aside0 (∀ u, u < v + 1 → selP G0 (needF G0 N) (mk x) u = false) := ⟨fun u hu => by
                  by_cases e : u = v
                  · subst e
                    unfold selP
                    rw [htb]
                    rfl
                  · exact HF.out u (by omega)⟩
                have HI2 := Aside0.mk (HI.out.more hmono)
                clear HF HI hmono hmadd
                go_wp2
                go_roundw
                case rel => exact ⟨v + 1, by omega, by go_num, rfl, rfl, HF2, HI2⟩
                case measure => simp [intOf]; omega
              | false =>
                obtain ⟨dv, hdv⟩ : ∃ dv : Nat, bhN G0 v (mk x) = dv := ⟨_, rfl⟩
                obtain ⟨qv, hqv⟩ : ∃ qv : Int, nd G0 N (sb (mk x) v) = qv := ⟨_, rfl⟩
                obtain ⟨Cv, hCe⟩ : ∃ Cv : Int, cst G0 N (mk x) v = Cv := ⟨_, rfl⟩
                have hCv : (if (dv : Int) < qv then qv else (dv : Int)) = Cv := by rw [← hCe, ← hdv, ← hqv]; rfl
                have hdeg := HI.out.st.deg hN hG hltv htb
                rw [hdv] at hdeg
                have HDEG := Aside0.mk hdeg
                have HQV := Aside0.mk hqv
                have hselv : selP G0 (needF G0 N) (mk x) v = decide (Cv ≤ r2) := by
                  unfold selP
                  rw [htb, ← hCe, ← HND.out]
                  rfl
                have HSV := Aside0.mk hselv
                clear hdeg hqv hdv hCe hselv
                have hsM : sb (mk x) v < 2 ^ N := sb_pow hSN hltv
                have hs16 : sb (mk x) v < 65536 := Nat.lt_of_lt_of_le hsM (show 2 ^ N ≤ 2 ^ 16 from Nat.pow_le_pow_right (by decide) hN)
                have hpv := wrap_pow (show v < 16 by omega)
                have hor := or_pows (mk x) v (by omega) (by omega)
                have hwr : True := trivial
                have hMM : (1 + k * 16 + v) * Q + Q ≤ 300 * Q := by rw [hmadd]; exact Nat.mul_le_mul_right _ (by omega)
                have hfc : fcp (cz0 N (sb (mk x) v) + 1) ≤ Q := by
                  have := fcp_mono (show cz0 N (sb (mk x) v) + 1 ≤ N + 1 by have := cz0_le N (sb (mk x) v); omega)
                  have := HQ.out
                  omega
                have HSTB := Aside0.mk (St.bdI hN hG (sb (mk x) v) (fun j hj => by
                  rcases Nat.lt_or_ge j N with h | h
                  · exact h
                  · rw [Nat.testBit_lt_two_pow (Nat.lt_of_lt_of_le hsM (Nat.pow_le_pow_right (by decide) h))] at hj
                    cases hj) (N - 0) 0 (G0, 2 ^ N - 1) 0 rfl (by omega) HST0.out (fun j => by rw [Nat.zero_testBit]; simp))
                have hcl2 : gval N A2 B2 ⟨N, N, fun _ => N⟩ = .agg #[.slice (some ⟨A2, 0, none⟩) N N, .slice (some ⟨B2, 0, none⟩) N N] := rfl
                have HID := HI.out.low (below_drew (Below.refl _ wr))
                have HNb := Aside0.mk (nb_calls HID.mat hN v hltv)
                rw [hcl2] at HNb
                have HRD := Aside0.mk (Kd.C_below HR.out HID.bel)
                obtain ⟨hc0, hc1⟩ := boxC HID.box
                go_wp2
                go_upto_region 14 with fail
                refine start_ (n := 20) (S := fun w' : World => w'.cell? ⟨w5.heap.size, 0, none⟩ = some (.slice (some ⟨A2, 0, none⟩) N N) ∧ w'.cell? ⟨w5.heap.size, 1, none⟩ = some (.slice (some ⟨B2, 0, none⟩) N N)) (ds := []) #[false, false, false, false, false, false, false, false, false, false, false, false, false, false, false, false, false, false, false, false] (by kernel_rfl) rfl rfl ⟨hc0, hc1⟩ (fun hHeld => ?_)
                refine with_tabW r164.tab14 r164.bits14 (fun HT_ HW_ => ?_)
                refine pure_ (i := 1) (N := some 46) (v := ?_) (a' := ?_) #[false, true, false, false, false, false, false, false, false, false, false, false, false, false, false, false, false, false, false, false] rfl rfl (any_of HT_.out (by kernel_rfl)) (fun _ _ _ h => h) (Or.inl ⟨by rfl, ?_⟩) ?_ ?_
                rotate_left
                · intro w'
                  go_simp
                  with_reducible rfl
                rotate_left
                · simp only [Act.put, List.setIfInBounds_toArray, List.set_cons_zero, List.set_cons_succ, i64_w, i32_w]
                  rfl
                refine pure_ (i := 4) (N := some 49) (v := ?_) (a' := ?_) #[false, true, false, false, true, false, false, false, false, false, false, false, false, false, false, false, false, false, false, false] rfl rfl (any_of HT_.out (by kernel_rfl)) (fun _ _ _ h => h) (Or.inl ⟨by rfl, ?_⟩) ?_ ?_
                rotate_left
                · intro w'
                  go_simp
                  with_reducible rfl
                rotate_left
                · simp only [Act.put, List.setIfInBounds_toArray, List.set_cons_zero, List.set_cons_succ, i64_w, i32_w]
                  rfl
                refine pure_ (i := 5) (N := some 50) (v := ?_) (a' := ?_) #[false, true, false, false, true, true, false, false, false, false, false, false, false, false, false, false, false, false, false, false] rfl rfl (any_of HT_.out (by kernel_rfl)) (fun _ _ _ h => h) (Or.inl ⟨by rfl, ?_⟩) ?_ ?_
                rotate_left
                · intro w'
                  go_simp
                  with_reducible rfl
                rotate_left
                · simp only [Act.put, List.setIfInBounds_toArray, List.set_cons_zero, List.set_cons_succ, i64_w, i32_w]
                  rfl
                refine pure_ (i := 7) (N := some 52) (v := ?_) (a' := ?_) #[false, true, false, false, true, true, false, true, false, false, false, false, false, false, false, false, false, false, false, false] rfl rfl (any_of HT_.out (by kernel_rfl)) (fun _ _ _ h => h) (Or.inl ⟨by rfl, ?_⟩) ?_ ?_
                rotate_left
                · intro w'
                  go_simp
                  with_reducible rfl
                rotate_left
                · simp only [Act.put, List.setIfInBounds_toArray, List.set_cons_zero, List.set_cons_succ, i64_w, i32_w]
                  rfl
                refine pure_ (i := 8) (N := some 53) (v := ?_) (a' := ?_) #[false, true, false, false, true, true, false, true, true, false, false, false, false, false, false, false, false, false, false, false] rfl rfl (any_of HT_.out (by kernel_rfl)) (fun _ _ _ h => h) (Or.inl ⟨by rfl, ?_⟩) ?_ ?_
                rotate_left
                · intro w'
                  go_simp
                  with_reducible rfl
                rotate_left
                · simp only [Act.put, List.setIfInBounds_toArray, List.set_cons_zero, List.set_cons_succ, i64_w, i32_w]
                  rfl
                refine pure_ (i := 9) (N := some 54) (v := ?_) (a' := ?_) #[false, true, false, false, true, true, false, true, true, true, false, false, false, false, false, false, false, false, false, false] rfl rfl (any_of HT_.out (by kernel_rfl)) (fun _ _ _ h => h) (Or.inl ⟨by rfl, ?_⟩) ?_ ?_
                rotate_left
                · intro w'
                  go_simp
                  with_reducible rfl
                rotate_left
                · simp only [Act.put, List.setIfInBounds_toArray, List.set_cons_zero, List.set_cons_succ, i64_w, i32_w]
                  rfl
                refine pure_ (i := 10) (N := some 55) (v := ?_) (a' := ?_) #[false, true, false, false, true, true, false, true, true, true, true, false, false, false, false, false, false, false, false, false] rfl rfl (any_of HT_.out (by kernel_rfl)) (fun _ _ _ h => h) (Or.inl ⟨by rfl, ?_⟩) ?_ ?_
                rotate_left
                · intro w'
                  go_simp
                  with_reducible rfl
                rotate_left
                · simp only [Act.put, List.setIfInBounds_toArray, List.set_cons_zero, List.set_cons_succ, i64_w, i32_w]
                  rfl
                refine pure_ (i := 12) (N := some 57) (v := ?_) (a' := ?_) #[false, true, false, false, true, true, false, true, true, true, true, false, true, false, false, false, false, false, false, false] rfl rfl (any_of HT_.out (by kernel_rfl)) (fun _ _ _ h => h) (Or.inl ⟨by rfl, ?_⟩) ?_ ?_
                rotate_left
                · intro w'
                  go_simp
                  with_reducible rfl
                rotate_left
                · simp only [Act.put, List.setIfInBounds_toArray, List.set_cons_zero, List.set_cons_succ, i64_w, i32_w]
                  rfl
                refine pure_ (i := 13) (N := some 58) (v := ?_) (a' := ?_) #[false, true, false, false, true, true, false, true, true, true, true, false, true, true, false, false, false, false, false, false] rfl rfl (any_of HT_.out (by kernel_rfl)) (fun _ _ _ h => h) (Or.inl ⟨by rfl, ?_⟩) ?_ ?_
                rotate_left
                · intro w'
                  go_simp
                  with_reducible rfl
                rotate_left
                · simp only [Act.put, List.setIfInBounds_toArray, List.set_cons_zero, List.set_cons_succ, i64_w, i32_w]
                  rfl
                refine pure_ (i := 14) (N := some 59) (v := ?_) (a' := ?_) #[false, true, false, false, true, true, false, true, true, true, true, false, true, true, true, false, false, false, false, false] rfl rfl (any_of HT_.out (by kernel_rfl)) (fun _ _ _ h => h) (Or.inl ⟨by rfl, ?_⟩) ?_ ?_
                rotate_left
                · intro w'
                  go_simp
                  with_reducible rfl
                rotate_left
                · simp only [Act.put, List.setIfInBounds_toArray, List.set_cons_zero, List.set_cons_succ, i64_w, i32_w]
                  rfl
                refine pure_ (i := 15) (N := some 60) (v := ?_) (a' := ?_) #[false, true, false, false, true, true, false, true, true, true, true, false, true, true, true, true, false, false, false, false] rfl rfl (any_of HT_.out (by kernel_rfl)) (fun _ _ _ h => h) (Or.inl ⟨by rfl, ?_⟩) ?_ ?_
                rotate_left
                · intro w'
                  go_simp
                  with_reducible rfl
                rotate_left
                · simp only [Act.put, List.setIfInBounds_toArray, List.set_cons_zero, List.set_cons_succ, i64_w, i32_w]
                  rfl
                refine pure_ (i := 16) (N := some 61) (v := ?_) (a' := ?_) #[false, true, false, false, true, true, false, true, true, true, true, false, true, true, true, true, true, false, false, false] rfl rfl (any_of HT_.out (by kernel_rfl)) (fun _ _ _ h => h) (Or.inl ⟨by rfl, ?_⟩) ?_ ?_
                rotate_left
                · intro w'
                  go_simp
                  with_reducible rfl
                rotate_left
                · simp only [Act.put, List.setIfInBounds_toArray, List.set_cons_zero, List.set_cons_succ, i64_w, i32_w]
                  rfl
                refine take_ (i := 0) (N := some 45) (v := ?_) (a' := ?_) #[true, true, false, false, true, true, false, true, true, true, true, false, true, true, true, true, true, false, false, false] rfl rfl (take_ofW HT_.out HW_.out (by kernel_rfl)) (fun _ _ _ h => h) (Or.inl ⟨by rfl, ?_⟩) hHeld ?_ ?_
                rotate_left
                · rintro w' ⟨s0, s1⟩
                  go_simp
                  with_reducible rfl
                rotate_left
                · simp only [Act.put, List.setIfInBounds_toArray, List.set_cons_zero, List.set_cons_succ, i64_w, i32_w]
                  rfl
                refine one_ (i := 2) (N := some 47) #[true, true, true, false, true, true, false, true, true, true, true, false, true, true, true, true, true, false, false, false] rfl rfl (one_of HT_.out (by kernel_rfl)) (by decide) (fun K hK => ?_)
                refine goes_ Try.func43 (by kernel_rfl) rfl #[.agg #[.slice (some ⟨A2, 0, none⟩) N N, .slice (some ⟨B2, 0, none⟩) N N], .int .i64 (v : Int)] (by rfl) rfl rfl (by simp only [List.map_toArray, List.map_cons, List.map_nil]; rfl) ?_
                refine HNb.out.mono ?_
                rintro e wa ⟨v5, rfl, hR5, hB5⟩
                obtain ⟨a5, c5, rfl, -, -⟩ := Kd.R_reads hR5
                rw [HDEG.out]
                refine ⟨_, rfl, ?_⟩
                have HI5 := HID.low hB5
                have hC5 := Kd.C_below HRD.out hB5
                clear hR5
                obtain ⟨hd0, hd1⟩ := boxC HI5.box
                refine hK.out _ _ ⟨hd0, hd1⟩ (fun hHeld => ?_)
                clear hK K hd0 hd1
                refine pure_ (i := 3) (N := some 48) (v := ?_) (a' := ?_) #[true, true, true, true, true, true, false, true, true, true, true, false, true, true, true, true, true, false, false, false] rfl rfl (any_of HT_.out (by kernel_rfl)) (fun _ _ _ h => h) (Or.inl ⟨by rfl, ?_⟩) ?_ ?_
                rotate_left
                · intro w'
                  go_simp
                  with_reducible rfl
                rotate_left
                · simp only [Act.put, List.setIfInBounds_toArray, List.set_cons_zero, List.set_cons_succ, i64_w, i32_w]
                  rfl
                refine one_ (i := 6) (N := some 51) #[true, true, true, true, true, true, true, true, true, true, true, false, true, true, true, true, true, false, false, false] rfl rfl (one_of HT_.out (by kernel_rfl)) (by decide) (fun K hK => ?_)
                refine goes_ Try.func42 (by kernel_rfl) rfl #[.int .i64 (N : Int), .slice A l.length c] (by rfl) rfl rfl (by simp only [List.map_toArray, List.map_cons, List.map_nil]; rfl) ?_
                refine (HRf.out wa hC5).mono ?_
                rintro e wb ⟨A3, B3, R3, rfl, hM6, hB6⟩
                refine ⟨_, rfl, ?_⟩
                have HI6 := HI5.low hB6
                have HBh := Aside0.mk (behind_calls (ofMat hM6) hN (sb (mk x) v) hs16)
                have hcl3 : gval N A3 B3 ⟨N, N, fun _ => N⟩ = .agg #[.slice (some ⟨A3, 0, none⟩) N N, .slice (some ⟨B3, 0, none⟩) N N] := rfl
                rw [hcl3] at HBh
                obtain ⟨hd0, hd1⟩ := boxC HI6.box
                refine hK.out _ _ ⟨hd0, hd1⟩ (fun hHeld => ?_)
                clear hK K hd0 hd1
                refine one_ (i := 11) (N := some 56) #[true, true, true, true, true, true, true, true, true, true, true, true, true, true, true, true, true, false, false, false] rfl rfl (one_of HT_.out (by kernel_rfl)) (by decide) (fun K hK => ?_)
                refine goes_ Try.func44 (by kernel_rfl) rfl #[.agg #[.slice (some ⟨A3, 0, none⟩) N N, .slice (some ⟨B3, 0, none⟩) N N], .int .i64 (sb (mk x) v : Nat)] (by rfl) rfl rfl (by simp only [List.map_toArray, List.map_cons, List.map_nil]; rfl) ?_
                refine HBh.out.mono ?_
                rintro e wc ⟨rfl, hM7, hO7⟩
                refine ⟨_, rfl, ?_⟩
                have hB7 : Below wa.heap.size wb wc := hO7.below hB6.size hM7.baseB hM7.baseR
                have HI7 := HI5.low (hB6.trans hB7)
                obtain ⟨n7, D7, hn7, how7, hk7⟩ := HI7.map
                have HRs := Aside0.mk (rest_calls hN hG (cz0 N (sb (mk x) v)) (sb (mk x) v) hM7 HSTB.out hsM rfl how7 hk7 (by omega))
                rw [hcl3] at HRs
                obtain ⟨hd0, hd1⟩ := boxC HI7.box
                refine hK.out _ _ ⟨hd0, hd1⟩ (fun hHeld => ?_)
                clear hK K hd0 hd1
                refine one_ (i := 17) (N := some 62) #[true, true, true, true, true, true, true, true, true, true, true, true, true, true, true, true, true, true, false, false] rfl rfl (one_of HT_.out (by kernel_rfl)) (by decide) (fun K hK => ?_)
                refine goes_ Try.func41 (by kernel_rfl) rfl #[.agg #[.slice (some ⟨A3, 0, none⟩) N N, .slice (some ⟨B3, 0, none⟩) N N], .int .i64 (sb (mk x) v : Nat), .map (some w1.heap.size)] (by rfl) rfl rfl (by simp only [List.map_toArray, List.map_cons, List.map_nil]; rfl) ?_
                refine HRs.out.mono ?_
                rintro e wd ⟨rfl, hG8, n8, D8, hn8, how8, hk8⟩
                rw [HQV.out]
                refine ⟨_, rfl, ?_⟩
                have HI8 : BsI w1 wd N w5.heap.size A2 B2 R2 H L2 w1.heap.size G0 (mk x) (.slice A9 x.length c9) x ((1 + k * 16 + v) * Q + Q) := HI7.mapped how7 hG8 n8 D8 (by omega) how8 hk8
                obtain ⟨hd0, hd1⟩ := boxC HI8.box
                refine hK.out _ _ ⟨hd0, hd1⟩ (fun hHeld => ?_)
                clear hK K hd0 hd1
                refine pure_ (i := 18) (N := some 63) (v := ?_) (a' := ?_) #[true, true, true, true, true, true, true, true, true, true, true, true, true, true, true, true, true, true, true, false] rfl rfl (any_of HT_.out (by kernel_rfl)) (fun _ _ _ h => h) (Or.inl ⟨by rfl, ?_⟩) ?_ ?_
                rotate_left
                · intro w'
                  go_simp
                  with_reducible rfl
                rotate_left
                · simp only [Act.put, List.setIfInBounds_toArray, List.set_cons_zero, List.set_cons_succ, i64_w, i32_w]
                  rfl
                refine pure_ (i := 19) (N := some 13) (v := ?_) (a' := ?_) #[true, true, true, true, true, true, true, true, true, true, true, true, true, true, true, true, true, true, true, true] rfl rfl (any_of HT_.out (by kernel_rfl)) (fun _ _ _ h => h) (Or.inl ⟨by rfl, ?_⟩) ?_ ?_
                rotate_left
                · intro w'
                  go_simp
                  with_reducible rfl
                rotate_left
                · simp only [Act.put, List.setIfInBounds_toArray, List.set_cons_zero, List.set_cons_succ, i64_w, i32_w]
                  rfl
                refine done_ (done_of HT_.out (by kernel_rfl)) ?_

                clear how8 hk8 hn8 hn7 hk7 how7 hG8 HRs HI7 HI6 HI5 hC5 hB5 hB6 hB7 hM6 hM7 hO7 HBh HNb hc0 hc1 HID HSTB
                by_cases hle : Cv ≤ r2
                · have hled : decide (Cv ≤ r2) = true := decide_eq_true hle
                  have hfind : (List.range N).find? (selP G0 (needF G0 N) (mk x)) = some v := find_first _ N v hltv (by rw [HSV.out, hled]) HF.out
                  have hst2 := hst.out
                  rw [hfind] at hst2
                  have HST2 := Aside0.mk hst2
                  have HI8d := HI8.low (below_drew (Below.refl _ wd))
                  have hvx : (v : Int) ∉ x := (mk_bitF HX0.out v).1 htb
                  have HP2 := Aside0.mk (HP.out.1.push (by have := HP.out.2; omega) (by omega) (by omega) hvx)
                  have hmk : mk (x ++ [(v : Int)]) = sb (mk x) v := by rw [mk_snoc, Int.toNat_natCast]
                  clear hfind hst2 hvx HI HI8 HF
                  go_wp2
                  go_upto_region 16 with fail
                  refine start_ (n := 10) (S := fun w' : World => True) (ds := []) #[false, false, false, false, false, false, false, false, false, false] (by kernel_rfl) rfl rfl trivial (fun hHeld => ?_)
                  refine with_tabW r166.tab16 r166.bits16 (fun HT_ HW_ => ?_)
                  refine pure_ (i := 0) (N := some 67) (v := ?_) (a' := ?_) #[true, false, false, false, false, false, false, false, false, false] rfl rfl (any_of HT_.out (by kernel_rfl)) (fun _ _ _ h => h) (Or.inl ⟨by rfl, ?_⟩) ?_ ?_
                  rotate_left
                  · intro w'
                    go_simp
                    with_reducible rfl
                  rotate_left
                  · simp only [Act.put, List.setIfInBounds_toArray, List.set_cons_zero, List.set_cons_succ, i64_w, i32_w]
                    rfl
                  refine pure_ (i := 1) (N := some 68) (v := ?_) (a' := ?_) #[true, true, false, false, false, false, false, false, false, false] rfl rfl (any_of HT_.out (by kernel_rfl)) (fun _ _ _ h => h) (Or.inl ⟨by rfl, ?_⟩) ?_ ?_
                  rotate_left
                  · intro w'
                    go_simp
                    with_reducible rfl
                  rotate_left
                  · simp only [Act.put, List.setIfInBounds_toArray, List.set_cons_zero, List.set_cons_succ, i64_w, i32_w]
                    rfl
                  refine pure_ (i := 4) (N := some 71) (v := ?_) (a' := ?_) #[true, true, false, false, true, false, false, false, false, false] rfl rfl (any_of HT_.out (by kernel_rfl)) (fun _ _ _ h => h) (Or.inl ⟨by rfl, ?_⟩) ?_ ?_
                  rotate_left
                  · intro w'
                    go_simp
                    with_reducible rfl
                  rotate_left
                  · simp only [Act.put, List.setIfInBounds_toArray, List.set_cons_zero, List.set_cons_succ, i64_w, i32_w]
                    rfl
                  refine pure_ (i := 5) (N := some 72) (v := ?_) (a' := ?_) #[true, true, false, false, true, true, false, false, false, false] rfl rfl (any_of HT_.out (by kernel_rfl)) (fun _ _ _ h => h) (Or.inl ⟨by rfl, ?_⟩) ?_ ?_
                  rotate_left
                  · intro w'
                    go_simp
                    with_reducible rfl
                  rotate_left
                  · simp only [Act.put, List.setIfInBounds_toArray, List.set_cons_zero, List.set_cons_succ, i64_w, i32_w]
                    rfl
                  refine pure_ (i := 6) (N := some 73) (v := ?_) (a' := ?_) #[true, true, false, false, true, true, true, false, false, false] rfl rfl (any_of HT_.out (by kernel_rfl)) (fun _ _ _ h => h) (Or.inl ⟨by rfl, ?_⟩) ?_ ?_
                  rotate_left
                  · intro w'
                    go_simp
                    with_reducible rfl
                  rotate_left
                  · simp only [Act.put, List.setIfInBounds_toArray, List.set_cons_zero, List.set_cons_succ, i64_w, i32_w]
                    rfl
                  refine pure_ (i := 7) (N := some 74) (v := ?_) (a' := ?_) #[true, true, false, false, true, true, true, true, false, false] rfl rfl (any_of HT_.out (by kernel_rfl)) (fun _ _ _ h => h) (Or.inl ⟨by rfl, ?_⟩) ?_ ?_
                  rotate_left
                  · intro w'
                    go_simp
                    with_reducible rfl
                  rotate_left
                  · simp only [Act.put, List.setIfInBounds_toArray, List.set_cons_zero, List.set_cons_succ, i64_w, i32_w]
                    rfl
                  refine one_ (i := 2) (N := some 69) #[true, true, true, false, true, true, true, true, false, false] rfl rfl (one_of HT_.out (by kernel_rfl)) (by decide) (fun K hK => ?_)
                  refine value_ (w1 := wd.drew.alloc (.cells #[.int .i64 (v : Int)] 3)) (v := .slice (some ⟨wd.drew.heap.size, 0, none⟩) 1 1) (by rfl) rfl (by first | (go_simp; done) | (go_simp; rfl)) ?_
                  refine hK.out _ _ trivial (fun hHeld => ?_)
                  clear hK K
                  refine norm_ (a' := ?_) ?_ ?_
                  rotate_left
                  · simp only [Act.put, List.setIfInBounds_toArray, List.set_cons_zero, List.set_cons_succ]
                    rfl
                  refine one_ (i := 3) (N := some 70) #[true, true, true, true, true, true, true, true, false, false] rfl rfl (one_of HT_.out (by kernel_rfl)) (by decide) (fun K hK => ?_)
                  refine Kd.R_append_step (Kd.int .i64) (w0 := w1) w1.heap.size rfl (.tmp 67) (.tmp 69) 25 3 (.int .i64 0) 8 rfl Try.underlying25 info3 rfl (by decide) (by omega) (.slice A9 x.length c9) x (v : Int) [.int .i64 (v : Int)] (fun _ => True) (fun _ => False) rfl rfl ?aP (fun _ hk => hk.elim) ?aF ?aO ?aB ?aS ?aL ?_
                  case aP => exact rfl
                  case aF => exact (fun _ _ => trivial)
                  case aO => exact HI8d.row
                  case aB => exact HI8d.bel
                  case aS => exact HI8d.bel.size
                  case aL => have := HXL.out; omega
                  intro v9 we ho9 hb9 hg9 hat9
                  refine hK.out _ _ trivial (fun hHeld => ?_)
                  clear hK K
                  have HI9 := HI8d.push ho9 hb9 hg9
                  refine norm_ (a' := ?_) ?_ ?_
                  rotate_left
                  · show Act.put _ (some 70) v9 = _
                    simp only [Act.put, List.setIfInBounds_toArray, List.set_cons_zero, List.set_cons_succ]
                    rfl
                  refine pure_ (i := 8) (N := some 9) (v := ?_) (a' := ?_) #[true, true, true, true, true, true, true, true, true, false] rfl rfl (any_of HT_.out (by kernel_rfl)) (fun _ _ _ h => h) (Or.inl ⟨by rfl, ?_⟩) ?_ ?_
                  rotate_left
                  · intro w'
                    go_simp
                    with_reducible rfl
                  rotate_left
                  · simp only [Act.put, List.setIfInBounds_toArray, List.set_cons_zero, List.set_cons_succ, i64_w, i32_w]
                    rfl
                  refine pure_ (i := 9) (N := some 11) (v := ?_) (a' := ?_) #[true, true, true, true, true, true, true, true, true, true] rfl rfl (any_of HT_.out (by kernel_rfl)) (fun _ _ _ h => h) (Or.inl ⟨by rfl, ?_⟩) ?_ ?_
                  rotate_left
                  · intro w'
                    go_simp
                    with_reducible rfl
                  rotate_left
                  · simp only [Act.put, List.setIfInBounds_toArray, List.set_cons_zero, List.set_cons_succ, i64_w, i32_w]
                    rfl
                  refine done_ (done_of HT_.out (by kernel_rfl)) ?_

                  obtain ⟨hc0, hc1⟩ := boxC HI9.box
                  have HOu := Aside0.mk (out_calls HI9.mat hN v hltv)
                  rw [hcl2] at HOu
                  go_wp2_with fail
                  refine HOu.out.mono ?_
                  rintro e wf ⟨rfl, hmf, hof⟩
                  have HI10 := HI9.out hmf hof (HI9.st.step hN hG hltv htb)
                  rw [← hmk] at HI10
                  have HI11 := Aside0.mk (HI10.more (show (1 + k * 16 + v) * Q + Q ≤ (1 + (k + 1) * 16) * Q by rw [hmadd]; exact Nat.mul_le_mul_right _ (by omega)))
                  have hst3 : Aside0 (selL G0 N (needF G0 N) (N - (k + 1)) (mk (x ++ [(v : Int)])) (x ++ [(v : Int)]) = some fin) := ⟨by rw [hmk]; exact HST2.out⟩
                  have HP3 : Aside0 (OdP N (x ++ [(v : Int)]) ∧ (x ++ [(v : Int)]).length = k + 1) := ⟨HP2.out, by rw [List.length_append, HP.out.2]; rfl⟩
                  clear HOu hmf hof HI9 HI8d HI10 hc0 hc1 ho9 hb9 hg9 hat9
                  rw [← hmk]
                  go_wp2
                  go_roundw
                  case rel => exact ⟨k + 1, _, _, _, by omega, by go_num, by rw [hmk], HP3, hst3, HI11⟩
                  case measure => simp [intOf]; omega
                · have hled : decide (Cv ≤ r2) = false := decide_eq_false hle
                  have HF2 : Aside0 (∀ u, u < v + 1 → selP G0 (needF G0 N) (mk x) u = false) := ⟨fun u hu => by
                    by_cases e : u = v
                    · subst e
                      rw [HSV.out, hled]
                    · exact HF.out u (by omega)⟩
                  have HI9 := Aside0.mk (HI8.more (show (1 + k * 16 + v) * Q + Q ≤ (1 + k * 16 + (v + 1)) * Q by rw [hmadd]; exact Nat.le_refl _))
                  clear HI8 HF HI
                  go_wp2
                  go_roundw
                  case rel => exact ⟨v + 1, by omega, by go_num, rfl, rfl, HF2, HI9⟩
                  case measure => simp [intOf]; omega
            · exfalso
              have hnone : (List.range N).find? (selP G0 (needF G0 N) (mk x)) = none := by
                rw [List.find?_eq_none]
                intro u hu
                rw [HF.out u (by have := List.mem_range.1 hu; omega)]
                simp
              have := hst.out
              rw [hnone] at this
              cases this
        · have hkN : N = k := by omega
          subst hkN
          have hend : Aside0 (x = fin) := ⟨by
            have := HSL.out
            rw [Nat.sub_self] at this
            exact Option.some.inj this⟩
          go_wp2
          go_ret3
          exact ⟨_, rfl, by rw [← hend.out]; exact HI.out.row, HI.out.bel⟩
    · have hN11 : ¬ ((N : Int) ≤ 10) := by omega
      have hB2 : ([], 0, 2) = (r1, r2, r3) := by
        unfold bestF at hB
        rw [hR, if_pos rfl, if_neg hN11] at hB
        exact Option.some.inj hB
      obtain ⟨rfl, h2⟩ := Prod.mk.inj hB2
      obtain ⟨rfl, rfl⟩ := Prod.mk.inj h2
      have hle10 : decide ((10 : Int) < (N : Int)) = true := decide_eq_true (by omega)
      rw [hR] at HC
      clear hr hR hB hB2 h2 hT
      go_enter Try.func16, Try.ntmps16
      go_wp2_with fail
      refine HC.out.mono ?_
      rintro e w1 ⟨rfl, rfl⟩
      go_wp2
      go_ret3
      exact ⟨_, rfl, Kd.R_nil _ _ _ _ _, Below.refl _ _⟩
end
end Go.Proofs.Ytnnaakinchophaa.Ord.G
