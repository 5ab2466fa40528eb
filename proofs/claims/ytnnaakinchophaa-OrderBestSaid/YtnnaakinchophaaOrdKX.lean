/- The reference's behind, walked; conditions as written. -/
import Derived.Test.YtnnaakinchophaaOrdKG
import Derived.Test.YtnnaakinchophaaOrdL
import Derived.Test.YtnnaakinchophaaOrdGR
import Derived.Maps.OwnSet
import Derived.Test.YtnnaakinchophaaOrdJR
namespace Go.Proofs.Ytnnaakinchophaa.Ord.G
section
set_option linter.unusedVariables false
set_option linter.unusedSimpArgs false
open Go.RowKit Go.Proofs.YtnnaakinchophaaW.PrintWords Go.Proofs.YtnnaakinchophaaW.PrintLast Go.Proofs.YtnnaakinchophaaW.PrintMore
/-- Taking out one of a set. -/
def bdS (N set : Nat) (s : (Nat → Nat) × Nat) (v : Nat) : (Nat → Nat) × Nat := if set.testBit v = true then (addL s.1 (rfill s.1 s.2 N v), cb s.2 v) else s
def bdI (N set k : Nat) (s : (Nat → Nat) × Nat) : (Nat → Nat) × Nat := (List.range' k (N - k)).foldl (bdS N set) s
theorem bdI_end (N set : Nat) (s : (Nat → Nat) × Nat) : bdI N set N s = s := by simp [bdI]
theorem bdI_step (N set k : Nat) (s : (Nat → Nat) × Nat) (h : k < N) : bdI N set k s = bdI N set (k + 1) (bdS N set s k) := by
  unfold bdI
  rw [show N - k = (N - (k + 1)) + 1 by omega, List.range'_succ, List.foldl_cons]
structure BdI (w wr : World) (N base gb rb A B : Nat) (K : Cap) (R H : Nat → Nat) (L : Nat) : Prop where
  mat : Mat wr N base A B K R H L
  box : wr.heap[gb]? = some (gbox N A B K)
  res : wr.heap[rb]? = some (.cells #[.slice none 0 0, .slice none 0 0] 61 (0, 0))
  out : OutK w wr N B R
theorem BdI.step {w wr w1 : World} {N base gb rb A B : Nat} {K : Cap} {R H H' : Nat → Nat} {L L' : Nat} (h : BdI w wr N base gb rb A B K R H L) (hm : Mat w1 N base A B K R H' L') (ho : OutK wr w1 N B R) : BdI w w1 N base gb rb A B K R H' L' :=
  ⟨hm, (ho.block gb (blk_lt h.box) (types_neE h.box h.mat.left (by decide)).1 (fun i hi => (types_neE h.box (h.mat.row i hi) (by decide)).1)).trans h.box,
   (ho.block rb (blk_lt h.res) (types_neE h.res h.mat.left (by decide)).1 (fun i hi => (types_neE h.res (h.mat.row i hi) (by decide)).1)).trans h.res, h.out.trans ho⟩
attribute [local go_sem] bit0s bit1s
set_option maxHeartbeats 4000000 in
set_option maxRecDepth 100000 in
theorem behind_calls {w : World} {N base A B : Nat} {K : Cap} {R G : Nat → Nat} {L : Nat} (hM : Mat w N base A B K R G L) (hN : N ≤ 16) (set : Nat) (hs : set < 65536) :
    Calls Try.prog 44 #[gval N A B K, .int .i64 (set : Int)] w fun e w' => e = .returned (gval N A B K) ∧ Mat w' N base A B K R (bdI N set 0 (G, L)).1 (bdI N set 0 (G, L)).2 ∧ OutK w w' N B R := by
  have hu61 := Try.underlying61
  have HI0 : BdI w ((w.alloc (gbox N A B K)).alloc (.cells #[.slice none 0 0, .slice none 0 0] 61)) N base w.heap.size (w.heap.size + 1) A B K R G L := ⟨(hM.alloc _).alloc _, blk_alloc (blk_new w _) _, by
    have := blk_new (w.alloc (gbox N A B K)) (.cells #[.slice none 0 0, .slice none 0 0] 61)
    rwa [World.size_alloc] at this, (OutK.ofBelow (Below.refl _ _)).alloc _ |>.alloc _⟩
  obtain ⟨hb0, hb1⟩ := boxC HI0.box
  generalize hfin : bdI N set 0 (G, L) = fin at *
  have HF := Aside0.mk hfin
  clear hM hfin
  have hcall : gval N A B K = .agg #[.slice (some ⟨A, 0, none⟩) N K.a, .slice (some ⟨B, 0, none⟩) N K.b] := rfl
  rw [hcall]
  go_enter Try.func44, Try.ntmps44
  go_wp2
  go_loopw [9] (fun s9 wr => ∃ k : Nat, ∃ H : Nat → Nat, ∃ L' : Nat, k ≤ N ∧ s9 = .int .i64 (k : Int) ∧ Aside0 (bdI N set k (H, L') = fin) ∧ BdI w wr N base w.heap.size (w.heap.size + 1) A B K R H L') (fun s9 _ => (N - (intOf s9).toNat))
  case atStart => exact ⟨0, G, L, by omega, rfl, HF, HI0⟩
  case round =>
    clear HI0 hb0 hb1
    obtain ⟨k, H, L', hk, rfl, HE, HI⟩ := hrel
    by_cases hlt : k < N
    · have hkd : decide (k < N) = true := decide_eq_true hlt
      have hst : Aside0 (bdI N set (k + 1) (bdS N set (H, L') k) = fin) := ⟨by rw [← HE.out, bdI_step N set k _ hlt]⟩
      obtain ⟨hb0, hb1⟩ := boxC HI.box
      have hk64 : k < 64 := by omega
      cases htb : set.testBit k with
      | false =>
        have hT : Aside0 (bdI N set (k + 1) (H, L') = fin) := ⟨by
          have := hst.out
          unfold bdS at this
          rwa [if_neg (by rw [htb]; simp)] at this⟩
        clear hst HE
        go_wp2
        go_roundw
        case rel => exact ⟨k + 1, _, _, by omega, by go_num, hT, HI⟩
        case measure => simp [intOf]; omega
      | true =>
        have hT : Aside0 (bdI N set (k + 1) (addL H (rfill H L' N k), cb L' k) = fin) := ⟨by
          have := hst.out
          unfold bdS at this
          rwa [if_pos htb] at this⟩
        have HOu := Aside0.mk (out_calls HI.mat hN k hlt)
        rw [hcall] at HOu
        clear hst HE
        go_wp2_with fail
        refine HOu.out.mono ?_
        rintro e w2 ⟨rfl, hm, ho⟩
        have HI2 := HI.step hm ho
        clear HOu hm ho HI hb0 hb1
        go_wp2
        go_roundw
        case rel => exact ⟨k + 1, _, _, by omega, by go_num, hT, HI2⟩
        case measure => simp [intOf]; omega
    · obtain rfl : k = N := by omega
      have hend : fin = (H, L') := by rw [← HE.out, bdI_end]
      subst hend
      obtain ⟨hb0, hb1⟩ := boxC HI.box
      have hr0 : wr.cell? ⟨w.heap.size + 1, 0, none⟩ = some (.slice none 0 0) := (blk_cell HI.res 0).trans rfl
      have hr1 : wr.cell? ⟨w.heap.size + 1, 1, none⟩ = some (.slice none 0 0) := (blk_cell HI.res 1).trans rfl
      have hf0 : wr.frozen? ⟨w.heap.size + 1, 0, none⟩ = false := blk_frozen HI.res 0
      have hf1 : wr.frozen? ⟨w.heap.size + 1, 1, none⟩ = false := blk_frozen HI.res 1
      have hG2 : wr.grownBy ((wr.setCell ⟨w.heap.size + 1, 0, none⟩ (.slice (some ⟨A, 0, none⟩) k K.a)).setCell ⟨w.heap.size + 1, 1, none⟩ (.slice (some ⟨B, 0, none⟩) k K.b)) (some (w.heap.size + 1)) := gb_set (gb_set (gb_refl _ _) 0 _) 1 _
      have hres2 : ((wr.setCell ⟨w.heap.size + 1, 0, none⟩ (.slice (some ⟨A, 0, none⟩) k K.a)).setCell ⟨w.heap.size + 1, 1, none⟩ (.slice (some ⟨B, 0, none⟩) k K.b)).heap[w.heap.size + 1]? = some (.cells #[.slice (some ⟨A, 0, none⟩) k K.a, .slice (some ⟨B, 0, none⟩) k K.b] 61 (0, 0)) := by
        rw [blk_set (blk_set HI.res 0 _) 1 _]
        rfl
      have HM := HI.mat
      have HM2 : Mat ((wr.setCell ⟨w.heap.size + 1, 0, none⟩ (.slice (some ⟨A, 0, none⟩) k K.a)).setCell ⟨w.heap.size + 1, 1, none⟩ (.slice (some ⟨B, 0, none⟩) k K.b)) k base A B K R H L' :=
        HM.grown hG2 (fun e => (types_neE HI.res HM.near (by decide)).1 (Option.some.inj e).symm) (fun e => (types_neE HI.res HM.left (by decide)).1 (Option.some.inj e).symm) (fun i hi e => (types_neE HI.res (HM.row i hi) (by decide)).1 (Option.some.inj e).symm)
      have hO2 : OutK w ((wr.setCell ⟨w.heap.size + 1, 0, none⟩ (.slice (some ⟨A, 0, none⟩) k K.a)).setCell ⟨w.heap.size + 1, 1, none⟩ (.slice (some ⟨B, 0, none⟩) k K.b)) k B R :=
        ⟨hG2.os.trans HI.out.os, hG2.tape.trans HI.out.tape, hG2.output.trans HI.out.output, Nat.le_trans HI.out.size hG2.size, fun g hg h1 h2 => (hG2.block g (Nat.lt_of_lt_of_le hg HI.out.size) (fun e => by have := Option.some.inj e; omega)).trans (HI.out.block g hg h1 h2)⟩
      have HZ := Aside0.mk (And.intro hres2 (And.intro HM2 hO2))
      clear hG2 hres2 HM HM2 hO2
      go_wp2
      refine bodyPost_ret (results_cell_row rfl _ _ (w.heap.size + 1) 61 _ (0, 0) _ rfl HZ.out.1 Try.underlying61 rfl (by kernel_rfl)) rfl ?_
      exact ⟨rfl, HZ.out.2.1, HZ.out.2.2⟩
end
section
set_option linter.unusedVariables false
set_option linter.unusedSimpArgs false
open Go.RowKit Go.Maps Go.Proofs.YtnnaakinchophaaW.PrintWords Go.Proofs.YtnnaakinchophaaW.PrintLast Go.Proofs.YtnnaakinchophaaW.PrintMore
/-- The reference's graph where S is out. -/
structure St (N : Nat) (G0 : Nat → Nat) (S : Nat) (G : Nat → Nat) (L : Nat) : Prop where
  ex : ∃ H, Sim N H G L ∧ Gr N H ∧ Chr G0 S H
  left : ∀ j, j < N → L.testBit j = !S.testBit j
theorem St.deg {N : Nat} (hN : N ≤ 16) {G0 G : Nat → Nat} {S L v : Nat} (hG : Gr N G0) (h : St N G0 S G L) (hv : v < N) (hS : S.testBit v = false) : (nb G L N v).length = bhN G0 v S := by
  obtain ⟨H, h1, h2, h3⟩ := h.ex
  rw [h1.deg hN v (by omega) (by rw [h.left v hv, hS]; rfl), bhN_deg hN hG h3 (by omega) hS]
theorem St.step {N : Nat} (hN : N ≤ 16) {G0 G : Nat → Nat} {S L v : Nat} (hG : Gr N G0) (h : St N G0 S G L) (hv : v < N) (hS : S.testBit v = false) : St N G0 (sb S v) (addL G (rfill G L N v)) (cb L v) := by
  obtain ⟨H, h1, h2, h3⟩ := h.ex
  refine ⟨⟨elimF H v, h1.elim hN v (by omega) (by rw [h.left v hv, hS]; rfl), h2.elim hN v, chr_elim hN hG h2 h3 hS⟩, fun j hj => ?_⟩
  rw [cb_bit L v j (by omega), sb_bit, h.left j hj]
  simp
theorem St.start {N : Nat} (hN : N ≤ 16) {l : List (List Int)} (hl : ∀ x ∈ l, ∀ v ∈ x, 0 ≤ v ∧ v < (N : Int)) : St N (ofG l) 0 (ofG l) (2 ^ N - 1) :=
  ⟨⟨ofG l, sim_start N hN l hl, ofG_gr hl, chr_start (ofG_gr hl)⟩, fun j hj => by rw [Nat.testBit_two_pow_sub_one, Nat.zero_testBit]; simp [hj]⟩
/-- What behind's graph is. -/
theorem St.bdI {N : Nat} (hN : N ≤ 16) {G0 : Nat → Nat} (hG : Gr N G0) (set : Nat) (hset : ∀ j, set.testBit j = true → j < N) : ∀ (d k : Nat) (s : (Nat → Nat) × Nat) (S : Nat), N - k = d → k ≤ N → St N G0 S s.1 s.2 → (∀ j, S.testBit j = true ↔ set.testBit j = true ∧ j < k) → St N G0 set (bdI N set k s).1 (bdI N set k s).2 := by
  intro d
  induction d with
  | zero =>
    intro k s S hd hk h hS
    obtain rfl : k = N := by omega
    rw [bdI_end]
    have : S = set := by
      apply Nat.eq_of_testBit_eq
      intro j
      rw [Bool.eq_iff_iff, hS]
      exact ⟨fun h => h.1, fun h => ⟨h, hset j h⟩⟩
    rw [← this]
    exact h
  | succ d ih =>
    intro k s S hd hk h hS
    rw [bdI_step N set k s (by omega)]
    unfold bdS
    cases hb : set.testBit k with
    | false =>
      rw [if_neg (by simp)]
      refine ih (k + 1) s S (by omega) (by omega) h (fun j => ?_)
      rw [hS j]
      constructor
      · rintro ⟨h1, h2⟩
        exact ⟨h1, by omega⟩
      · rintro ⟨h1, h2⟩
        refine ⟨h1, ?_⟩
        have : j ≠ k := fun e => by rw [e, hb] at h1; cases h1
        omega
    | true =>
      rw [if_pos rfl]
      have hSk : S.testBit k = false := by
        cases hx : S.testBit k with
        | false => rfl
        | true => have := (hS k).1 hx; omega
      refine ih (k + 1) _ (sb S k) (by omega) (by omega) (h.step hN hG (by omega) hSk) (fun j => ?_)
      rw [sb_bit, Bool.or_eq_true, hS j, decide_eq_true_eq]
      constructor
      · rintro (⟨h1, h2⟩ | rfl)
        · exact ⟨h1, by omega⟩
        · exact ⟨hb, by omega⟩
      · rintro ⟨h1, h2⟩
        by_cases e : j = k
        · exact Or.inr e
        · exact Or.inl ⟨h1, by omega⟩
/-- The cost of v where S is out. -/
def cst (G0 : Nat → Nat) (N S v : Nat) : Int := mx (bhN G0 v S : Int) (nd G0 N (sb S v))
def rsS (G0 : Nat → Nat) (N S : Nat) (acc : Int) (v : Nat) : Int := if S.testBit v = true then acc else if acc < 0 ∨ cst G0 N S v < acc then cst G0 N S v else acc
def rsI (G0 : Nat → Nat) (N S k : Nat) (acc : Int) : Int := (List.range' k (N - k)).foldl (rsS G0 N S) acc
theorem rsI_end (G0 : Nat → Nat) (N S : Nat) (acc : Int) : rsI G0 N S N acc = acc := by simp [rsI]
theorem rsI_step (G0 : Nat → Nat) (N S k : Nat) (acc : Int) (h : k < N) : rsI G0 N S k acc = rsI G0 N S (k + 1) (rsS G0 N S acc k) := by
  unfold rsI
  rw [show N - k = (N - (k + 1)) + 1 by omega, List.range'_succ, List.foldl_cons]
theorem cst_nonneg (G0 : Nat → Nat) (N S v : Nat) : 0 ≤ cst G0 N S v := Int.le_trans (Int.natCast_nonneg _) (le_mx _ _)
def RsP (G0 : Nat → Nat) (N S k : Nat) (acc : Int) : Prop := (acc = -1 ∧ ∀ v, v < k → S.testBit v = true) ∨ ∃ u, u < k ∧ S.testBit u = false ∧ acc = cst G0 N S u ∧ ∀ v, v < k → S.testBit v = false → acc ≤ cst G0 N S v
theorem rs_best (G0 : Nat → Nat) (N S : Nat) : ∀ (d k : Nat) (acc : Int), N - k = d → k ≤ N → RsP G0 N S k acc → RsP G0 N S N (rsI G0 N S k acc) := by
  intro d
  induction d with
  | zero =>
    intro k acc hd hk h
    obtain rfl : k = N := by omega
    rw [rsI_end]
    exact h
  | succ d ih =>
    intro k acc hd hk h
    rw [rsI_step G0 N S k acc (by omega)]
    refine ih (k + 1) _ (by omega) (by omega) ?_
    unfold rsS
    cases hb : S.testBit k with
    | true =>
      rw [if_pos rfl]
      rcases h with ⟨h1, h2⟩ | ⟨u, h1, h2, h3, h4⟩
      · refine Or.inl ⟨h1, fun v hv => ?_⟩
        by_cases e : v = k
        · rw [e]; exact hb
        · exact h2 v (by omega)
      · refine Or.inr ⟨u, by omega, h2, h3, fun v hv hn => ?_⟩
        by_cases e : v = k
        · rw [e, hb] at hn; cases hn
        · exact h4 v (by omega) hn
    | false =>
      rw [if_neg (by simp)]
      rcases h with ⟨h1, h2⟩ | ⟨u, h1, h2, h3, h4⟩
      · rw [if_pos (Or.inl (by omega))]
        refine Or.inr ⟨k, by omega, hb, rfl, fun v hv hn => ?_⟩
        by_cases e : v = k
        · rw [e]; exact Int.le_refl _
        · rw [h2 v (by omega)] at hn; cases hn
      · have h0 := cst_nonneg G0 N S u
        by_cases hc : cst G0 N S k < acc
        · rw [if_pos (Or.inr hc)]
          refine Or.inr ⟨k, by omega, hb, rfl, fun v hv hn => ?_⟩
          by_cases e : v = k
          · rw [e]; exact Int.le_refl _
          · have := h4 v (by omega) hn; omega
        · rw [if_neg (by omega)]
          refine Or.inr ⟨u, by omega, h2, h3, fun v hv hn => ?_⟩
          by_cases e : v = k
          · rw [e]; omega
          · exact h4 v (by omega) hn
/-- rest says what the table says. -/
theorem rs_all {N : Nat} (hN : N ≤ 16) {G0 : Nat → Nat} (hG : Gr N G0) {S : Nat} (hS : S < 2 ^ N) : mx (rsI G0 N S 0 (-1)) 0 = nd G0 N S := by
  rcases rs_best G0 N S (N - 0) 0 (-1) rfl (by omega) (Or.inl ⟨rfl, fun v hv => by omega⟩) with ⟨h1, h2⟩ | ⟨u, h1, h2, h3, h4⟩
  · rw [h1]
    have : S = 2 ^ N - 1 := by
      apply Nat.eq_of_testBit_eq
      intro j
      rw [Nat.testBit_two_pow_sub_one]
      by_cases hj : j < N
      · rw [h2 j hj]; simp [hj]
      · rw [Nat.testBit_lt_two_pow (Nat.lt_of_lt_of_le hS (Nat.pow_le_pow_right (by decide) (by omega)))]
        simp [hj]
    show mx (-1) 0 = (needF G0 N).getD S 0
    rw [this, needF_full]
    rfl
  · have h0 := cst_nonneg G0 N S u
    rw [← h3] at h0
    rw [mx_zero h0]
    obtain ⟨v, hv, hSv, hcv⟩ := nd_att hN hG hS ⟨u, h1, h2⟩
    have h5 := h4 v hv hSv
    have h6 := nd_step (G := G0) hS h1 h2
    have h7 : cst G0 N S v = nd G0 N S := hcv
    have h8 : nd G0 N S ≤ cst G0 N S u := h6
    omega
/-- How many calls at most keep something. -/
def fcp : Nat → Nat
  | 0 => 0
  | m + 1 => 1 + 16 * fcp m
/-- How many are left. -/
def cz0 (N S : Nat) : Nat := ((List.range N).filter fun v => !S.testBit v).length
theorem cz0_sb {N S v : Nat} (hv : v < N) (h : S.testBit v = false) : cz0 N (sb S v) + 1 = cz0 N S := by
  unfold cz0
  have key : ∀ l : List Nat, l.Nodup → (l.filter fun u => !(sb S v).testBit u).length + (if v ∈ l then 1 else 0) = (l.filter fun u => !S.testBit u).length := by
    intro l
    induction l with
    | nil => intro _; rfl
    | cons a r ih =>
      intro hn
      obtain ⟨h1, h2⟩ := List.nodup_cons.1 hn
      have ih := ih h2
      rw [List.filter_cons, List.filter_cons, sb_bit]
      by_cases e : a = v
      · subst e
        rw [if_neg h1] at ih
        rw [h, if_pos List.mem_cons_self]
        simp only [decide_true, Bool.or_true, Bool.not_true, Bool.not_false, Bool.false_eq_true, if_false, if_true, List.length_cons]
        omega
      · have : (v ∈ a :: r) ↔ v ∈ r := by
          rw [List.mem_cons]
          exact ⟨fun h => h.resolve_left (fun e2 => e e2.symm), Or.inr⟩
        simp only [e, decide_false, Bool.or_false, this]
        cases S.testBit a with
        | true => simp only [Bool.not_true, Bool.false_eq_true, if_false]; exact ih
        | false => simp only [Bool.not_false, if_true, List.length_cons]; omega
  have := key (List.range N) List.nodup_range
  rw [if_pos (List.mem_range.2 hv)] at this
  exact this
/-- What is kept is right. -/
structure Kept (G0 : Nat → Nat) (N : Nat) (D : DataW Unit) : Prop where
  ok : ∀ s : Nat, s < 65536 → Maps.has D (.int .i64 (s : Int)) = true → D.atKey (.int .i64 (s : Int)) (.lit (.int .i64 0)) = .lit (.int .i64 (nd G0 N s))
theorem Kept.empty (G0 : Nat → Nat) (N : Nat) : Kept G0 N (.map []) := ⟨fun s _ h => by simp [Maps.has] at h⟩
theorem key_int (s : Int) : WideAt.IsKeyLit (.int .i64 s) := by simp [WideAt.IsKeyLit]
theorem Kept.put {G0 : Nat → Nat} {N : Nat} {D : DataW Unit} (h : Kept G0 N D) (hD : Maps.IsMap D) (S : Nat) : Kept G0 N (D.put (.int .i64 (S : Int)) (.lit (.int .i64 (nd G0 N S)))) := ⟨fun s hs hh => by
  by_cases e : s = S
  · subst e
    exact Maps.atKey_put_same hD (key_int _) _ _
  · have hne : (Lit.int .i64 (s : Int)) ≠ Lit.int .i64 (S : Int) := fun h => by
      injection h with _ h
      omega
    rw [Maps.has_put_other hne] at hh
    rw [Maps.atKey_put_other hne]
    exact h.ok s hs hh⟩
end
section
set_option linter.unusedVariables false
set_option linter.unusedSimpArgs false
open Go.RowKit Go.Maps Go.Proofs.YtnnaakinchophaaW.PrintWords Go.Proofs.YtnnaakinchophaaW.PrintLast Go.Proofs.YtnnaakinchophaaW.PrintMore
theorem info59 : (Try.prog.info? 59).map (fun i => (i.zero, i.size, i.bytes)) = some (some (.slice none 0 0), 1, 24) := by kernel_rfl
theorem info4 : (Try.prog.info? 4).map (fun i => (i.zero, i.size, i.bytes)) = some (some (.bool false), 1, 1) := by kernel_rfl
/-- The bits of X as a row. -/
def bl (N X : Nat) : List Bool := (List.range N).map fun j => X.testBit j
theorem bl_len (N X : Nat) : (bl N X).length = N := by simp [bl]
theorem bl_get {N X j : Nat} (h : j < N) : (bl N X)[j]? = some (X.testBit j) := by simp [bl, h]
/-- A block of bits reads as their row. -/
theorem blk_row {w : World} {g N X : Nat} (hN : N ≤ 16) (h : ∃ cs, w.heap[g]? = some (.cells cs 4 (0, 0)) ∧ ∀ j, j < N → cs[j]? = some (.bool (X.testBit j))) : Kd.C Kd.bool w (some ⟨g, 0, none⟩) N (bl N X) := by
  obtain ⟨cs, hb, hc⟩ := h
  refine ⟨bl_len N X, by omega, fun _ => ⟨⟨g, 0, none⟩, rfl, fun j p hj => ⟨[.bool p], rfl, rfl, fun i u hu => ?_⟩⟩⟩
  cases i with
  | succ i => simp at hu
  | zero =>
    simp at hu
    subst hu
    have hjN : j < N := by
      rcases Nat.lt_or_ge j N with h | h
      · exact h
      · rw [List.getElem?_eq_none (by rw [bl_len]; exact h)] at hj
        cases hj
    rw [bl_get hjN] at hj
    injection hj with hj
    have e : (⟨g, 0, none⟩ : Addr).add (j * 1 + 0) = ⟨g, j, none⟩ := by
      unfold Addr.add
      split
      · rename_i e; simp at e; subst e; rfl
      · simp
    show w.cell? ((⟨g, 0, none⟩ : Addr).add (j * 1 + 0)) = _
    rw [e, blk_cell hb j, hc j hjN, hj]
/-- A row of one's own of bits is a block of them. -/
theorem row_blk {w : World} {base N X : Nat} {v : Value} (hN0 : 0 < N) (h : Kd.R Kd.bool 4 w base (fun _ => True) v (bl N X)) : ∃ g c, v = .slice (some ⟨g, 0, none⟩) N c ∧ base ≤ g ∧ g < w.heap.size ∧ ∃ cs, w.heap[g]? = some (.cells cs 4 (0, 0)) ∧ ∀ j, j < N → cs[j]? = some (.bool (X.testBit j)) := by
  obtain ⟨g, c, hv, hb, hlt, cs, hcs⟩ := Kd.R_form h (by rw [bl_len]; exact hN0)
  rw [bl_len] at hv
  subst hv
  refine ⟨g, c, rfl, hb, hlt, cs, hcs, fun j hj => ?_⟩
  have hc := (Kd.R_celln false h (j : Int) (by omega) (by omega)).1
  rw [Int.toNat_natCast, blk_cell hcs j] at hc
  rw [hc]
  have : rdOf false (bl N X) (j : Int) = X.testBit j := by
    unfold rdOf
    simp [bl, hj]
  rw [this]
theorem bool_types : ∀ q, q ∈ 4 :: Kd.bool.E → q ≠ 59 := by
  intro q hq
  have : q = 4 := by simpa [Kd.bool, Kd.scalar] using hq
  omega
/-- k rows of the copy are made; its own left mask; its box. -/
structure CpI (wb wr : World) (N k gb B cB : Nat) (R cR G : Nat → Nat) (L : Nat) (T : List ST) (s : Value) : Prop where
  near : Kd.R ks 59 wr wb.heap.size (fun _ => True) s T
  tl : T.length = k
  tr : ∀ i, i < k → T[i]? = some (some ⟨R i, 0, none⟩, N, cR i)
  row : ∀ i, i < k → ∃ cs, wr.heap[R i]? = some (.cells cs 4 (0, 0)) ∧ ∀ j, j < N → cs[j]? = some (.bool ((G i).testBit j))
  inj : ∀ i j, i < k → j < k → R i = R j → i = j
  neB : ∀ i, i < k → R i ≠ B
  baseR : ∀ i, i < k → wb.heap.size ≤ R i
  left : ∃ cs, wr.heap[B]? = some (.cells cs 4 (0, 0)) ∧ ∀ j, j < N → cs[j]? = some (.bool (L.testBit j))
  baseB : wb.heap.size ≤ B
  box : wr.heap[gb]? = some (.cells #[s, .slice (some ⟨B, 0, none⟩) N cB] 61 (0, 0))
  baseG : wb.heap.size ≤ gb
  bel : Below wb.heap.size wb wr
/-- One row more. -/
theorem CpI.push {wb wr w1 : World} {N k gb B cB r cr : Nat} {R cR G : Nat → Nat} {L : Nat} {T : List ST} {s v1 : Value} (h : CpI wb wr N k gb B cB R cR G L T s) (hr : wr.heap.size ≤ r)
    (hrow : ∃ cs, w1.heap[r]? = some (.cells cs 4 (0, 0)) ∧ ∀ j, j < N → cs[j]? = some (.bool ((G k).testBit j)))
    (hn : Kd.R ks 59 w1 wb.heap.size (fun _ => True) v1 (T ++ [(some ⟨r, 0, none⟩, N, cr)])) (hold : ∀ (g : Nat) (cs : Array Value), wr.heap[g]? = some (.cells cs 4 (0, 0)) → w1.heap[g]? = wr.heap[g]?) (hbox : w1.heap[gb]? = some (.cells #[v1, .slice (some ⟨B, 0, none⟩) N cB] 61 (0, 0))) (hb : Below wb.heap.size wb w1) :
    CpI wb w1 N (k + 1) gb B cB (fun i => if i = k then r else R i) (fun i => if i = k then cr else cR i) G L (T ++ [(some ⟨r, 0, none⟩, N, cr)]) v1 where
  near := hn
  tl := by rw [List.length_append, h.tl]; rfl
  tr := fun i hi => by
    by_cases e : i = k
    · subst e
      rw [if_pos rfl, if_pos rfl, List.getElem?_append_right (by rw [h.tl]; exact Nat.le_refl _), h.tl, Nat.sub_self]
      rfl
    · rw [if_neg e, if_neg e, List.getElem?_append_left (by rw [h.tl]; omega)]
      exact h.tr i (by omega)
  row := fun i hi => by
    by_cases e : i = k
    · subst e
      rw [if_pos rfl]
      exact hrow
    · rw [if_neg e]
      obtain ⟨cs, h1, h2⟩ := h.row i (by omega)
      exact ⟨cs, (hold _ _ h1).trans h1, h2⟩
  inj := fun i j hi hj he => by
    have hlt : ∀ i, i < k → R i < wr.heap.size := fun i hi => blk_ltE (h.row i hi)
    by_cases e1 : i = k
    · by_cases e2 : j = k
      · omega
      · rw [if_pos e1, if_neg e2] at he
        have := hlt j (by omega)
        omega
    · by_cases e2 : j = k
      · rw [if_neg e1, if_pos e2] at he
        have := hlt i (by omega)
        omega
      · rw [if_neg e1, if_neg e2] at he
        exact h.inj i j (by omega) (by omega) he
  neB := fun i hi => by
    have hB := blk_ltE h.left
    by_cases e : i = k
    · rw [if_pos e]; omega
    · rw [if_neg e]; exact h.neB i (by omega)
  baseR := fun i hi => by
    by_cases e : i = k
    · rw [if_pos e]; exact Nat.le_trans h.bel.size hr
    · rw [if_neg e]; exact h.baseR i (by omega)
  left := by
    obtain ⟨cs, h1, h2⟩ := h.left
    exact ⟨cs, (hold _ _ h1).trans h1, h2⟩
  baseB := h.baseB
  box := hbox
  baseG := h.baseG
  bel := hb
/-- The copy is a graph. -/
theorem CpI.mat {wb wr : World} {N gb B cB : Nat} {R cR G : Nat → Nat} {L : Nat} {T : List ST} {s : Value} (hN0 : 0 < N) (h : CpI wb wr N N gb B cB R cR G L T s) : ∃ A cA, s = .slice (some ⟨A, 0, none⟩) N cA ∧ Mat wr N wb.heap.size A B ⟨cA, cB, cR⟩ R G L ∧ wr.heap[gb]? = some (gbox N A B ⟨cA, cB, cR⟩) := by
  obtain ⟨A, cA, hv, hb, hlt, cs, hcs⟩ := Kd.R_form h.near (by rw [h.tl]; exact hN0)
  rw [h.tl] at hv
  subst hv
  refine ⟨A, cA, rfl, ⟨⟨cs, hcs, fun k hk => ?_⟩, h.left, h.row, h.inj, h.neB, hb, h.baseB, h.baseR⟩, h.box⟩
  have hc := (Kd.R_celln (none, 0, 0) h.near (k : Int) (by omega) (by omega)).1
  rw [Int.toNat_natCast, blk_cell hcs k] at hc
  rw [hc]
  have : rdOf (none, 0, 0) T (k : Int) = (some ⟨R k, 0, none⟩, N, cR k) := by
    unfold rdOf
    rw [Int.toNat_natCast, List.getD_eq_getElem?_getD, h.tr k hk]
    rfl
  rw [this]
theorem CpI.low {wb wr w1 : World} {N k gb B cB : Nat} {R cR G : Nat → Nat} {L : Nat} {T : List ST} {s : Value} (h : CpI wb wr N k gb B cB R cR G L T s) (hb : Below wr.heap.size wr w1) : CpI wb w1 N k gb B cB R cR G L T s where
  near := Kd.R_below h.near hb
  tl := h.tl
  tr := h.tr
  row := fun i hi => blk_moveE (h.row i hi) (hb.block _ (blk_ltE (h.row i hi)))
  inj := h.inj
  neB := h.neB
  baseR := h.baseR
  left := blk_moveE h.left (hb.block _ (blk_ltE h.left))
  baseB := h.baseB
  box := (hb.block _ (blk_lt h.box)).trans h.box
  baseG := h.baseG
  bel := below_step h.bel hb
theorem CpI.drew_ {wb wr : World} {N k gb B cB : Nat} {R cR G : Nat → Nat} {L : Nat} {T : List ST} {s : Value} (h : CpI wb wr N k gb B cB R cR G L T s) : CpI wb wr.drew N k gb B cB R cR G L T s := h.low (below_drew (Below.refl _ _))
theorem CpI.alloc_ {wb wr : World} {N k gb B cB : Nat} {R cR G : Nat → Nat} {L : Nat} {T : List ST} {s : Value} (h : CpI wb wr N k gb B cB R cR G L T s) (o : Obj) : CpI wb (wr.alloc o) N k gb B cB R cR G L T s := h.low ((Below.refl _ _).alloc (Nat.le_refl _) o)
theorem bool_empty (w : World) : Kd.R Kd.bool 4 (w.alloc (.cells #[] 4)) w.heap.size (fun _ => True) (.slice (some ⟨w.heap.size, 0, none⟩) 0 0) [] := Kd.R_of_own (by
  have h := own_lit_of (enc := Value.bool) w w.heap.size 4 [] (Nat.le_refl _) (by decide)
  exact h) (fun _ _ => trivial)
/-- rest under way. -/
structure RsI (w wr : World) (N base A B : Nat) (K : Cap) (R G : Nat → Nat) (L mb : Nat) (G0 : Nat → Nat) (M : Nat) : Prop where
  mat : Mat wr N base A B K R G L
  box : wr.heap[w.heap.size]? = some (gbox N A B K)
  gro : w.grownBy wr (some mb)
  map : ∃ (n : Nat) (D : DataW Unit), n ≤ M ∧ wr.ownsMap Try.prog 3 (plainElem Try.prog 3) mb n D ∧ Kept G0 N D
theorem map_ne {w : World} {P : Program} {k : TypeId} {R : Value → Option (DataW Unit × List MemPlace)} {mb n : Nat} {D : DataW Unit} (h : w.ownsMap P k R mb n D) {g t : Nat} {cs : Array Value} (hg : w.heap[g]? = some (.cells cs t (0, 0))) : g ≠ mb := fun e => by
  obtain ⟨es, clock, hb, _⟩ := h
  rw [e, hb] at hg
  cases hg
theorem map_neE {w : World} {P : Program} {k : TypeId} {R : Value → Option (DataW Unit × List MemPlace)} {mb n : Nat} {D : DataW Unit} (h : w.ownsMap P k R mb n D) {g t : Nat} {Q : Array Value → Prop} (hg : ∃ cs, w.heap[g]? = some (.cells cs t (0, 0)) ∧ Q cs) : g ≠ mb := by
  obtain ⟨cs, hg, _⟩ := hg
  exact map_ne h hg
/-- Where only the map is written the graph stays. -/
theorem Mat.mapped {w w1 : World} {n base A B : Nat} {K : Cap} {R N : Nat → Nat} {L mb k : Nat} {D : DataW Unit} (h : Mat w n base A B K R N L) (hm : w.ownsMap Try.prog 3 (plainElem Try.prog 3) mb k D) (hg : w.grownBy w1 (some mb)) : Mat w1 n base A B K R N L :=
  h.grown hg (fun e => map_neE hm h.near (Option.some.inj e)) (fun e => map_neE hm h.left (Option.some.inj e)) (fun i hi e => map_neE hm (h.row i hi) (Option.some.inj e))
theorem law3 : Keyed Try.prog 3 := int_keyed Try.underlying3
theorem zero3 (w : World) : (zeroValue 3).run Try.prog w = .ok (.int .i64 0) w := by kernel_rfl
end
end Go.Proofs.Ytnnaakinchophaa.Ord.G
