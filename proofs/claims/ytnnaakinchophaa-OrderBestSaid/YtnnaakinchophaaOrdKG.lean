/- The reference's matrix where its slices may have room to spare; neighbors, fill, out over it, walked; conditions as written. -/
import Derived.Test.YtnnaakinchophaaOrdQ
namespace Go.Proofs.Ytnnaakinchophaa.Ord.G
set_option linter.unusedVariables false
set_option linter.unusedSimpArgs false
open Go.RowKit Go.Proofs.YtnnaakinchophaaW.PrintWords Go.Proofs.YtnnaakinchophaaW.PrintLast Go.Proofs.YtnnaakinchophaaW.PrintMore
/-- How much room the slices have. -/
structure Cap where
  a : Nat
  b : Nat
  r : Nat → Nat
def gval (N A B : Nat) (K : Cap) : Value := .agg #[.slice (some ⟨A, 0, none⟩) N K.a, .slice (some ⟨B, 0, none⟩) N K.b]
def gbox (N A B : Nat) (K : Cap) : Obj := .cells #[.slice (some ⟨A, 0, none⟩) N K.a, .slice (some ⟨B, 0, none⟩) N K.b] 61
structure Mat (w : World) (n base A B : Nat) (K : Cap) (R N : Nat → Nat) (L : Nat) : Prop where
  near : ∃ cs, w.heap[A]? = some (.cells cs 59 (0, 0)) ∧ ∀ k, k < n → cs[k]? = some (.slice (some ⟨R k, 0, none⟩) n (K.r k))
  left : ∃ cs, w.heap[B]? = some (.cells cs 4 (0, 0)) ∧ ∀ k, k < n → cs[k]? = some (.bool (L.testBit k))
  row : ∀ k, k < n → ∃ cs, w.heap[R k]? = some (.cells cs 4 (0, 0)) ∧ ∀ j, j < n → cs[j]? = some (.bool ((N k).testBit j))
  inj : ∀ i j, i < n → j < n → R i = R j → i = j
  neB : ∀ i, i < n → R i ≠ B
  baseA : base ≤ A
  baseB : base ≤ B
  baseR : ∀ i, i < n → base ≤ R i
theorem blk_ltE {w : World} {g t : Nat} {P : Array Value → Prop} (h : ∃ cs, w.heap[g]? = some (.cells cs t (0, 0)) ∧ P cs) : g < w.heap.size := by
  obtain ⟨cs, h, _⟩ := h
  exact blk_lt h
theorem blk_moveE {w w1 : World} {g t : Nat} {P : Array Value → Prop} (h : ∃ cs, w.heap[g]? = some (.cells cs t (0, 0)) ∧ P cs) (hm : w1.heap[g]? = w.heap[g]?) : ∃ cs, w1.heap[g]? = some (.cells cs t (0, 0)) ∧ P cs := by
  obtain ⟨cs, h, hp⟩ := h
  exact ⟨cs, hm.trans h, hp⟩
theorem R_neE {α : Type} {d : Kd α} {e : Nat} {w : World} {base : Nat} {ok : Nat → Prop} {v : Value} {xs : List α} (h : d.R e w base ok v xs) {g t : Nat} {P : Array Value → Prop} (hb : ∃ cs, w.heap[g]? = some (.cells cs t (0, 0)) ∧ P cs) (ht : e ≠ t) : some g ≠ v.ownBlock := by
  obtain ⟨cs, hb, _⟩ := hb
  exact Kd.R_ne h hb ht
theorem types_neE {w : World} {g g2 t t2 : Nat} {c1 : Array Value} {P : Array Value → Prop} (h : w.heap[g]? = some (.cells c1 t (0, 0))) (h2 : ∃ cs, w.heap[g2]? = some (.cells cs t2 (0, 0)) ∧ P cs) (ht : t ≠ t2) : g ≠ g2 ∧ g2 ≠ g := by
  obtain ⟨cs, h2, _⟩ := h2
  exact types_ne h h2 ht
theorem types_neEE {w : World} {g g2 t t2 : Nat} {P Q : Array Value → Prop} (h : ∃ cs, w.heap[g]? = some (.cells cs t (0, 0)) ∧ Q cs) (h2 : ∃ cs, w.heap[g2]? = some (.cells cs t2 (0, 0)) ∧ P cs) (ht : t ≠ t2) : g ≠ g2 ∧ g2 ≠ g := by
  obtain ⟨cs, h, _⟩ := h
  exact types_neE h h2 ht
theorem R_setE {α : Type} {d : Kd α} {e : Nat} {w : World} {base : Nat} {ok : Nat → Prop} {v : Value} {xs : List α} (h : d.R e w base ok v xs) {g t : Nat} {P : Array Value → Prop} (hb : ∃ cs, w.heap[g]? = some (.cells cs t (0, 0)) ∧ P cs) (ht : ∀ q, q ∈ e :: d.E → q ≠ t) (j : Nat) (u : Value) : d.R e (w.setCell ⟨g, j, none⟩ u) base ok v xs := by
  obtain ⟨cs, hb, _⟩ := hb
  exact Kd.R_set h hb ht j u
section
variable {w : World} {n base A B : Nat} {K : Cap} {R N : Nat → Nat} {L : Nat}
theorem Mat.neA (h : Mat w n base A B K R N L) (i : Nat) (hi : i < n) : R i ≠ A := (types_neEE h.near (h.row i hi) (by decide)).2
theorem Mat.neAB (h : Mat w n base A B K R N L) : A ≠ B := (types_neEE h.near h.left (by decide)).1
theorem Mat.nearC (h : Mat w n base A B K R N L) (k : Nat) (hk : k < n) : w.cell? ⟨A, k, none⟩ = some (.slice (some ⟨R k, 0, none⟩) n (K.r k)) := by
  obtain ⟨cs, hb, hc⟩ := h.near
  exact (blk_cell hb k).trans (hc k hk)
theorem Mat.leftC (h : Mat w n base A B K R N L) (k : Nat) (hk : k < n) : w.cell? ⟨B, k, none⟩ = some (.bool (L.testBit k)) := by
  obtain ⟨cs, hb, hc⟩ := h.left
  exact (blk_cell hb k).trans (hc k hk)
theorem Mat.rowC (h : Mat w n base A B K R N L) (k j : Nat) (hk : k < n) (hj : j < n) : w.cell? ⟨R k, j, none⟩ = some (.bool ((N k).testBit j)) := by
  obtain ⟨cs, hb, hc⟩ := h.row k hk
  exact (blk_cell hb j).trans (hc j hj)
theorem Mat.leftF (h : Mat w n base A B K R N L) (k : Nat) : w.frozen? ⟨B, k, none⟩ = false := by
  obtain ⟨cs, hb, _⟩ := h.left
  exact blk_frozen hb k
theorem Mat.rowF (h : Mat w n base A B K R N L) (k j : Nat) (hk : k < n) : w.frozen? ⟨R k, j, none⟩ = false := by
  obtain ⟨cs, hb, _⟩ := h.row k hk
  exact blk_frozen hb j
theorem Mat.move {w1 : World} (h : Mat w n base A B K R N L) (hm : ∀ k, k < w.heap.size → w1.heap[k]? = w.heap[k]?) : Mat w1 n base A B K R N L :=
  ⟨blk_moveE h.near (hm _ (blk_ltE h.near)), blk_moveE h.left (hm _ (blk_ltE h.left)), fun k hk => blk_moveE (h.row k hk) (hm _ (blk_ltE (h.row k hk))), h.inj, h.neB, h.baseA, h.baseB, h.baseR⟩
theorem Mat.below {w1 : World} (h : Mat w n base A B K R N L) (hb : Below w.heap.size w w1) : Mat w1 n base A B K R N L := h.move hb.block
theorem Mat.drew (h : Mat w n base A B K R N L) : Mat w.drew n base A B K R N L := ⟨h.near, h.left, h.row, h.inj, h.neB, h.baseA, h.baseB, h.baseR⟩
theorem Mat.drewN (h : Mat w n base A B K R N L) (m : Nat) : Mat (w.drewN m) n base A B K R N L := ⟨h.near, h.left, h.row, h.inj, h.neB, h.baseA, h.baseB, h.baseR⟩
theorem Mat.alloc (h : Mat w n base A B K R N L) (o : Obj) : Mat (w.alloc o) n base A B K R N L := h.move (fun k hk => Below.heap_alloc w o k hk)
theorem Mat.lower {base' : Nat} (h : Mat w n base A B K R N L) (hb : base' ≤ base) : Mat w n base' A B K R N L := ⟨h.near, h.left, h.row, h.inj, h.neB, Nat.le_trans hb h.baseA, Nat.le_trans hb h.baseB, fun i hi => Nat.le_trans hb (h.baseR i hi)⟩
theorem Mat.grown {w1 : World} {b : Option Nat} (h : Mat w n base A B K R N L) (hg : w.grownBy w1 b) (hA : some A ≠ b) (hB : some B ≠ b) (hR : ∀ i, i < n → some (R i) ≠ b) : Mat w1 n base A B K R N L :=
  ⟨blk_moveE h.near (hg.block _ (blk_ltE h.near) hA), blk_moveE h.left (hg.block _ (blk_ltE h.left) hB), fun k hk => blk_moveE (h.row k hk) (hg.block _ (blk_ltE (h.row k hk)) (hR k hk)), h.inj, h.neB, h.baseA, h.baseB, h.baseR⟩
theorem Mat.add (h : Mat w n base A B K R N L) (k j : Nat) (hk : k < n) : Mat (w.setCell ⟨R k, j, none⟩ (.bool true)) n base A B K R (up N k (sb (N k) j)) L where
  near := blk_moveE h.near (Below.heap_setCell w ⟨R k, j, none⟩ _ A (fun e => h.neA k hk e.symm))
  left := blk_moveE h.left (Below.heap_setCell w ⟨R k, j, none⟩ _ B (fun e => h.neB k hk e.symm))
  row := fun i hi => by
    by_cases e : i = k
    · subst e
      obtain ⟨cs, hb, hc⟩ := h.row i hi
      refine ⟨_, blk_set hb j _, fun q hq => ?_⟩
      rw [up_same, sb_bit, Array.getElem?_setIfInBounds]
      by_cases e2 : j = q
      · subst e2
        have hlt : j < cs.size := by
          rcases Nat.lt_or_ge j cs.size with h | h
          · exact h
          · have := hc j hq
            rw [Array.getElem?_eq_none h] at this
            cases this
        rw [if_pos rfl, if_pos hlt]
        simp
      · rw [if_neg e2, hc q hq]
        have : q ≠ j := fun e => e2 e.symm
        simp [this]
    · rw [up_other _ _ e]
      exact blk_moveE (h.row i hi) (Below.heap_setCell w ⟨R k, j, none⟩ _ (R i) (fun e2 => e (h.inj i k hi hk e2)))
  inj := h.inj
  neB := h.neB
  baseA := h.baseA
  baseB := h.baseB
  baseR := h.baseR
theorem Mat.unleft (h : Mat w n base A B K R N L) (v : Nat) (hn : n ≤ 16) : Mat (w.setCell ⟨B, v, none⟩ (.bool false)) n base A B K R N (cb L v) where
  near := blk_moveE h.near (Below.heap_setCell w ⟨B, v, none⟩ _ A h.neAB)
  left := by
    obtain ⟨cs, hb, hc⟩ := h.left
    refine ⟨_, blk_set hb v _, fun q hq => ?_⟩
    rw [cb_bit L v q (by omega), Array.getElem?_setIfInBounds]
    by_cases e2 : v = q
    · subst e2
      have hlt : v < cs.size := by
        rcases Nat.lt_or_ge v cs.size with h | h
        · exact h
        · have := hc v hq
          rw [Array.getElem?_eq_none h] at this
          cases this
      rw [if_pos rfl, if_pos hlt]
      simp
    · rw [if_neg e2, hc q hq]
      have : q ≠ v := fun e => e2 e.symm
      simp [this]
  row := fun i hi => blk_moveE (h.row i hi) (Below.heap_setCell w ⟨B, v, none⟩ _ (R i) (h.neB i hi))
  inj := h.inj
  neB := h.neB
  baseA := h.baseA
  baseB := h.baseB
  baseR := h.baseR
end
/-- The matrix as it is made has no room to spare. -/
theorem ofMat {w : World} {n base A B : Nat} {R N : Nat → Nat} {L : Nat} (h : Ord.Mat w n base A B R N L) : Mat w n base A B ⟨n, n, fun _ => n⟩ R N L :=
  ⟨⟨_, h.near, fun k hk => tab_get k hk⟩, ⟨_, h.left, fun k hk => tab_get k hk⟩, fun k hk => ⟨_, h.row k hk, fun j hj => tab_get j hj⟩, h.inj, h.neB, h.baseA, h.baseB, h.baseR⟩
structure NbI (w wr : World) (N base gb A B : Nat) (K : Cap) (R G : Nat → Nat) (L : Nat) (s : Value) (acc : List Int) : Prop where
  mat : Mat wr N base A B K R G L
  box : wr.heap[gb]? = some (gbox N A B K)
  row : Kd.R (Kd.int .i64) 3 wr w.heap.size (fun _ => True) s acc
  bel : Below w.heap.size w wr
theorem boxC {w : World} {N gb A B : Nat} {K : Cap} (h : w.heap[gb]? = some (gbox N A B K)) : w.cell? ⟨gb, 0, none⟩ = some (.slice (some ⟨A, 0, none⟩) N K.a) ∧ w.cell? ⟨gb, 1, none⟩ = some (.slice (some ⟨B, 0, none⟩) N K.b) := ⟨(blk_cell h 0).trans rfl, (blk_cell h 1).trans rfl⟩

theorem NbI.push {w W w1 : World} {N base gb A B : Nat} {K : Cap} {R G : Nat → Nat} {L : Nat} {s v1 : Value} {acc acc2 : List Int} (h : NbI w W N base gb A B K R G L s acc) (ho : Kd.R (Kd.int .i64) 3 w1 w.heap.size (fun _ => True) v1 acc2) (hb : Below w.heap.size w w1) (hg : W.grownBy w1 s.ownBlock) : NbI w w1 N base gb A B K R G L v1 acc2 :=
  ⟨h.mat.grown hg (R_neE h.row h.mat.near (by decide)) (R_neE h.row h.mat.left (by decide)) (fun i hi => R_neE h.row (h.mat.row i hi) (by decide)),
   (hg.block _ (blk_lt h.box) (Kd.R_ne h.row h.box (by decide))).trans h.box, ho, hb⟩
set_option maxHeartbeats 4000000 in
set_option maxRecDepth 100000 in
theorem nb_calls {w : World} {N base A B : Nat} {K : Cap} {R G : Nat → Nat} {L : Nat} (hM : Mat w N base A B K R G L) (hN : N ≤ 16) (v : Nat) (hv : v < N) :
    Calls Try.prog 43 #[gval N A B K, .int .i64 (v : Int)] w fun e w' => ∃ v0, e = .returned v0 ∧ Kd.R (Kd.int .i64) 3 w' w.heap.size (fun _ => True) v0 (nb G L N v) ∧ Below w.heap.size w w' := by
  have hu61 := Try.underlying61
  have HI0 : NbI w (w.alloc (gbox N A B K)) N base w.heap.size A B K R G L (.slice none 0 0) [] := ⟨hM.alloc _, blk_new w _, Kd.R_nil _ _ _ _ _, (Below.refl _ _).alloc (Nat.le_refl _) _⟩
  have hb0 := (boxC HI0.box).1
  clear hM
  unfold gval
  go_enter Try.func43, Try.ntmps43
  go_wp2
  go_loopw [5, 10] (fun s5 s10 wr => ∃ k : Nat, ∃ acc : List Int, k ≤ N ∧ s10 = .int .i64 (k : Int) ∧ Aside0 (acc ++ nbA G L N v k = nb G L N v) ∧ NbI w wr N base w.heap.size A B K R G L s5 acc) (fun _ s10 _ => (N - (intOf s10).toNat))
  case atStart => exact ⟨0, [], by omega, rfl, ⟨rfl⟩, HI0⟩
  case round =>
    clear HI0 hb0
    obtain ⟨k, acc, hk, rfl, HA, HI⟩ := hrel
    by_cases hlt : k < N
    · have hkd : decide (k < N) = true := decide_eq_true hlt
      have hTs := nbA_step G L N v k hlt
      obtain ⟨hb0, hb1⟩ := boxC HI.box
      have hlc := HI.mat.leftC k hlt
      have hnc := HI.mat.nearC v hv
      have hrc := HI.mat.rowC v k hv hlt
      cases htl : L.testBit k with
      | false =>
        rw [htl] at hlc hTs
        have hT : Aside0 (acc ++ nbA G L N v (k + 1) = nb G L N v) := ⟨by rw [← HA.out, hTs]; simp⟩
        clear hTs HA
        go_wp2
        go_roundw
        case rel => exact ⟨k + 1, acc, by omega, by go_num, hT, HI⟩
        case measure => simp [intOf]; omega
      | true =>
        rw [htl] at hlc hTs
        cases htg : (G v).testBit k with
        | false =>
          rw [htg] at hrc hTs
          have hT : Aside0 (acc ++ nbA G L N v (k + 1) = nb G L N v) := ⟨by rw [← HA.out, hTs]; simp⟩
          clear hTs HA
          go_wp2
          go_roundw
          case rel => exact ⟨k + 1, acc, by omega, by go_num, hT, HI⟩
          case measure => simp [intOf]; omega
        | true =>
          rw [htg] at hrc hTs
          have hT : Aside0 ((acc ++ [(k : Int)]) ++ nbA G L N v (k + 1) = nb G L N v) := ⟨by rw [← HA.out, hTs]; simp⟩
          have hL : Aside0 (acc.length ≤ 16) := ⟨by
            have h1 : (nb G L N v).length ≤ N := nbA_len G L N v 0
            rw [← HA.out, List.length_append] at h1
            omega⟩
          clear hTs HA
          go_wp2_with (at_builtin; refine Kd.R_append (Kd.int .i64) (w0 := w) w.heap.size rfl (.tmp 28) (.tmp 30) 25 3 (.int .i64 0) 8 rfl Try.underlying25 info3 rfl (by decide) (by omega) _ acc ((k : Nat) : Int) [.int .i64 (k : Int)] (fun _ => True) (fun _ => False) rfl rfl ?aP (fun _ hk => hk.elim) ?aF ?aO ?aB ?aS ?aL ?_; (case aP => exact rfl); (case aF => exact (fun _ _ => trivial)); (case aO => exact HI.row); (case aB => exact HI.bel); (case aS => exact HI.bel.size); (case aL => have := hL.out; omega); intro v1 w4 ho hb1 hg1 hat1; have HI1 := HI.push ho hb1 hg1; clear ho hb1 hg1 hat1 HI)
          go_roundw
          case rel => exact ⟨k + 1, _, by omega, by go_num, hT, HI1⟩
          case measure => simp [intOf]; omega
    · obtain rfl : k = N := by omega
      go_wp2
      go_ret
      refine ⟨_, rfl, ?_, HI.bel⟩
      have := HA.out
      rw [nbA_end, List.append_nil] at this
      rw [← this]
      exact HI.row

/-! ### fill -/
structure FlI (w wr : World) (N base gb A B : Nat) (K : Cap) (R G : Nat → Nat) (L : Nat) (s : Value) (acc : List (Int × Int)) (t : Value) (ls : List Int) : Prop where
  mat : Mat wr N base A B K R G L
  box : wr.heap[gb]? = some (gbox N A B K)
  row : Kd.R kp 48 wr w.heap.size (fun _ => True) s acc
  lst : Kd.R (Kd.int .i64) 3 wr w.heap.size (fun _ => True) t ls
  bel : Below w.heap.size w wr

theorem FlI.push {w W w1 : World} {N base gb A B : Nat} {K : Cap} {R G : Nat → Nat} {L : Nat} {s v1 t : Value} {acc acc2 : List (Int × Int)} {ls : List Int} (h : FlI w W N base gb A B K R G L s acc t ls) (ho : Kd.R kp 48 w1 w.heap.size (fun _ => True) v1 acc2) (hb : Below w.heap.size w w1) (hg : W.grownBy w1 s.ownBlock) : FlI w w1 N base gb A B K R G L v1 acc2 t ls :=
  ⟨h.mat.grown hg (R_neE h.row h.mat.near (by decide)) (R_neE h.row h.mat.left (by decide)) (fun i hi => R_neE h.row (h.mat.row i hi) (by decide)),
   (hg.block _ (blk_lt h.box) (Kd.R_ne h.row h.box (by decide))).trans h.box, ho,
   Kd.R_grown2 h.lst rfl hg (fun k hk => by
     obtain ⟨inner, hown⟩ := Kd.R_own h.row
     obtain ⟨cells, hc⟩ := own_typed hown k hk
     exact Kd.R_ne h.lst hc (by decide)), hb⟩
set_option maxHeartbeats 4000000 in
set_option maxRecDepth 100000 in
theorem rfill_calls {w : World} {N base A B : Nat} {K : Cap} {R G : Nat → Nat} {L : Nat} (hM : Mat w N base A B K R G L) (hN : N ≤ 16) (v : Nat) (hv : v < N) :
    Calls Try.prog 53 #[gval N A B K, .int .i64 (v : Int)] w fun e w' => ∃ v0, e = .returned v0 ∧ Kd.R kp 48 w' w.heap.size (fun _ => True) v0 (rfill G L N v) ∧ Below w.heap.size w w' := by
  have hu61 := Try.underlying61
  have hB0 : (w.alloc (gbox N A B K)).heap[w.heap.size]? = some (gbox N A B K) := blk_new w _
  have hb0 := boxC hB0
  have hM2 := hM.alloc (gbox N A B K)
  have hW2 := (Below.refl w.heap.size w).alloc (Nat.le_refl _) (gbox N A B K)
  obtain ⟨hb0, hb1⟩ := hb0
  have H1 := Aside0.mk (nb_calls hM2 hN v hv)
  have hcall : gval N A B K = .agg #[.slice (some ⟨A, 0, none⟩) N K.a, .slice (some ⟨B, 0, none⟩) N K.b] := rfl
  rw [hcall] at H1 ⊢
  clear hM
  go_enter Try.func53, Try.ntmps53
  go_wp2_with fail
  refine H1.out.mono ?_
  rintro e w2 ⟨v2, rfl, hR, hB⟩
  have HI0 : FlI w w2 N base w.heap.size A B K R G L (.slice none 0 0) [] v2 (nb G L N v) := ⟨hM2.below hB, blk_below hB0 hB, Kd.R_nil _ _ _ _ _, Kd.R_lower hR (by simp), below_step hW2 hB⟩
  have hmem := Aside0.mk (fun x (hx : x ∈ nb G L N v) => nb_mem hx)
  have hlen : (nb G L N v).length ≤ N := nbA_len G L N v 0
  have hF := Aside0.mk (show rfA G (nb G L N v) = rfill G L N v from rfl)
  have hFL := Aside0.mk (rfA_len G (nb G L N v))
  generalize nb G L N v = ls at *
  clear hM2 hB0 hb0 hb1 hB hW2 hR H1 hcall
  obtain ⟨A2, c2, rfl, hc2, hC2⟩ := Kd.R_reads HI0.lst
  obtain ⟨i3, hi3, hz3⟩ := Option.map_eq_some_iff.1 info3
  have hs3 : i3.size = 1 := by
    simp only [Prod.mk.injEq] at hz3
    exact hz3.2.1
  clear hz3 hC2
  go_wp2
  go_loopw [5, 16] (fun s5 s16 wr => ∃ i : Nat, ∃ acc : List (Int × Int), i ≤ ls.length ∧ s16 = .int .i64 (i : Int) ∧ Aside0 (acc ++ rfA G (ls.drop i) = rfA G ls) ∧ FlI w wr N base w.heap.size A B K R G L s5 acc (.slice A2 ls.length c2) ls) (fun _ s16 _ => (ls.length - (intOf s16).toNat))
  case atStart => exact ⟨0, [], by omega, rfl, ⟨rfl⟩, HI0⟩
  case round =>
    clear HI0
    obtain ⟨i, acc, hi, rfl, HA, HI⟩ := hrel
    by_cases hlt : i < ls.length
    · have hkd : decide (i < ls.length) = true := decide_eq_true hlt
      obtain ⟨_, _, hC⟩ := Kd.R_reads' HI.lst
      obtain ⟨ad, had, hx⟩ := kn_at hC i hlt
      have hd := Aside0.mk (drop_getD 0 ls i hlt)
      obtain ⟨a, ha, hxa, _, _⟩ := hmem.out _ (getD_mem 0 ls i hlt)
      rw [hxa] at hx hd
      have hT : Aside0 (acc ++ (rfB G (a : Int) (ls.drop (i + 1)) ++ rfA G (ls.drop (i + 1))) = rfA G ls) := ⟨by rw [← HA.out, hd.out]; rfl⟩
      have hcut := cut_from (P := Try.prog) 25 3 .i64 Try.underlying25 hi3 1 hs3 A2 ls.length c2 ((i : Int) + 1) (by omega) (by omega)
      have e1 : ((i : Int) + 1).toNat = i + 1 := by omega
      rw [e1] at hcut
      obtain ⟨A3, hA3⟩ : ∃ A3, (if c2 = i + 1 then A2 else A2.map (·.add ((i + 1) * 1))) = A3 := ⟨_, rfl⟩
      rw [hA3] at hcut
      have HC3 : Aside0 (∀ w1 : World, Kd.C (Kd.int .i64) w1 A2 ls.length ls → Kd.C (Kd.int .i64) w1 A3 (ls.drop (i + 1)).length (ls.drop (i + 1))) := ⟨fun w1 h => by
        have := Kd.C_drop (c := c2) (m := i + 1) h (by omega) hc2
        rw [← hA3]
        exact this⟩
      have hl3 : ls.length - (i + 1) = (ls.drop (i + 1)).length := by rw [List.length_drop]
      have hmem3 := Aside0.mk (fun x (hx : x ∈ ls.drop (i + 1)) => hmem.out x (List.mem_of_mem_drop hx))
      rw [hl3] at hcut
      have hl4 : (ls.drop (i + 1)).length ≤ 16 := by rw [← hl3]; omega
      have hrest : Aside0 (rfA G (ls.drop (i + 1)) = rfA G (ls.drop (i + 1))) := ⟨rfl⟩
      obtain ⟨rest, hre⟩ : ∃ rest, ls.drop (i + 1) = rest := ⟨_, rfl⟩
      have HRE := Aside0.mk hre
      rw [hre] at hT hcut HC3 hl4 hmem3
      subst had
      clear hA3 e1 hl3 hd hC hxa HA hre hrest
      go_wp2
      go_loopw [5, 26] (fun s5 s26 wr => ∃ q : Nat, ∃ acc : List (Int × Int), q ≤ rest.length ∧ s26 = .int .i64 (q : Int) ∧ Aside0 (acc ++ (rfB G (a : Int) (rest.drop q) ++ rfA G rest) = rfA G ls) ∧ FlI w wr N base w.heap.size A B K R G L s5 acc (.slice (some ad) ls.length c2) ls) (fun _ s26 _ => (rest.length - (intOf s26).toNat))
      case atStart => exact ⟨0, acc, by omega, rfl, hT, HI⟩
      case round =>
        clear HI hT hx
        obtain ⟨q, acc, hq, rfl, HA, HI⟩ := hrel
        by_cases hltq : q < rest.length
        · have hkd2 : decide (q < rest.length) = true := decide_eq_true hltq
          obtain ⟨_, _, hC⟩ := Kd.R_reads' HI.lst
          obtain ⟨ad3, rfl, hy⟩ := kn_at (HC3.out _ hC) q hltq
          have hd := Aside0.mk (drop_getD 0 rest q hltq)
          obtain ⟨b, hb, hyb, _, _⟩ := hmem3.out _ (getD_mem 0 rest q hltq)
          rw [hyb] at hy hd
          obtain ⟨hb0, hb1⟩ := boxC HI.box
          have hnc := HI.mat.nearC a ha
          have hrc := HI.mat.rowC a b ha hb
          have hTs := Aside0.mk (rfB_cons G a b (rest.drop (q + 1)))
          clear hyb hC
          cases htg : (G a).testBit b with
          | true =>
            rw [htg] at hrc hTs
            have hT : Aside0 (acc ++ (rfB G (a : Int) (rest.drop (q + 1)) ++ rfA G rest) = rfA G ls) := ⟨by rw [← HA.out, hd.out, hTs.out]; simp⟩
            clear hTs HA hd
            go_wp2
            go_roundw
            case rel => exact ⟨q + 1, acc, by omega, by go_num, hT, HI⟩
            case measure => simp [intOf]; omega
          | false =>
            rw [htg] at hrc hTs
            have hT : Aside0 ((acc ++ [pr a b]) ++ (rfB G (a : Int) (rest.drop (q + 1)) ++ rfA G rest) = rfA G ls) := ⟨by rw [← HA.out, hd.out, hTs.out]; simp⟩
            have hL : Aside0 (acc.length ≤ 256) := ⟨by
              have h1 := hFL.out
              have h2 : ls.length * ls.length ≤ 16 * 16 := Nat.mul_le_mul (by omega) (by omega)
              rw [← HA.out, List.length_append] at h1
              omega⟩
            clear hTs HA hd
            go_wp2_with (at_builtin; refine Kd.R_append kp (w0 := w) w.heap.size rfl (.tmp 39) (.tmp 43) 35 48 (.agg #[.int .i64 0, .int .i64 0]) 16 rfl Try.underlying35 info48 rfl (by decide) (by omega) _ acc (pr a b) [.int .i64 (a : Int), .int .i64 (b : Int)] (fun _ => True) (fun _ => False) rfl rfl ?aP (fun _ hk => hk.elim) ?aF ?aO ?aB ?aS ?aL ?_; (case aP => exact kp_mkM _ _ _ _ _); (case aF => exact (fun _ _ => trivial)); (case aO => exact HI.row); (case aB => exact HI.bel); (case aS => exact HI.bel.size); (case aL => have := hL.out; omega); intro v1 w4 ho hb1 hg1 hat1; have HI1 := FlI.push HI ho hb1 hg1; clear ho hb1 hg1 hat1 HI)
            go_roundw
            case rel => exact ⟨q + 1, _, by omega, by go_num, hT, HI1⟩
            case measure => simp [intOf]; omega
        · obtain rfl : q = rest.length := by omega
          go_wp2
          go_roundw
          case rel => exact ⟨i + 1, acc, by omega, by go_num, ⟨by rw [← HA.out, List.drop_length, HRE.out]; simp [rfB]⟩, HI⟩
          case measure => simp [intOf]; omega
    · obtain rfl : i = ls.length := by omega
      go_wp2
      go_ret
      refine ⟨_, rfl, ?_, HI.bel⟩
      have := HA.out
      rw [List.drop_length] at this
      have h2 : acc = rfA G ls := by rw [← this]; simp [rfA]
      rw [← hF.out, ← h2]
      exact HI.row

theorem R_out {α : Type} {d : Kd α} {e : Nat} {w w' : World} {base b0 N A B : Nat} {K : Cap} {R G : Nat → Nat} {L : Nat} {ok : Nat → Prop} {v : Value} {xs : List α} (h : d.R e w base ok v xs) (hM : Mat w N b0 A B K R G L) (hf : OutK w w' N B R) (ht : ∀ q, q ∈ e :: d.E → q ≠ 4) : d.R e w' base (fun _ => True) v xs := by
  refine Kd.R_mono (Kd.R_move (Kd.R_bound h) (fun k hk => ?_)) (fun _ _ => trivial)
  obtain ⟨_, _, hlt, q, hq, cells, hc⟩ := hk
  refine hf.block k hlt (fun e => ?_) (fun i hi e => ?_)
  · exact (types_neE hc hM.left (ht q hq)).1 e
  · exact (types_neE hc (hM.row i hi) (ht q hq)).1 e
structure OutI (w wr : World) (N base gb A B : Nat) (K : Cap) (R H : Nat → Nat) (L : Nat) (s : Value) (fl : List (Int × Int)) : Prop where
  mat : Mat wr N base A B K R H L
  box : wr.heap[gb]? = some (gbox N A B K)
  row : Kd.R kp 48 wr w.heap.size (fun _ => True) s fl
  out : OutK w wr N B R

theorem OutI.alloc {w wr : World} {N base gb A B : Nat} {K : Cap} {R H : Nat → Nat} {L : Nat} {s : Value} {fl : List (Int × Int)} (h : OutI w wr N base gb A B K R H L s fl) (o : Obj) : OutI w (wr.alloc o) N base gb A B K R H L s fl :=
  ⟨h.mat.alloc o, blk_alloc h.box o, Kd.R_alloc h.row o, h.out.alloc o⟩
theorem OutI.drew {w wr : World} {N base gb A B : Nat} {K : Cap} {R H : Nat → Nat} {L : Nat} {s : Value} {fl : List (Int × Int)} (h : OutI w wr N base gb A B K R H L s fl) : OutI w wr.drew N base gb A B K R H L s fl :=
  ⟨h.mat.drew, h.box, Kd.R_drew h.row, h.out.drew⟩
theorem OutI.add {w wr : World} {N base gb A B : Nat} {K : Cap} {R H : Nat → Nat} {L : Nat} {s : Value} {fl : List (Int × Int)} (h : OutI w wr N base gb A B K R H L s fl) (a b : Nat) (ha : a < N) : OutI w (wr.setCell ⟨R a, b, none⟩ (.bool true)) N base gb A B K R (up H a (sb (H a) b)) L s fl :=
  ⟨h.mat.add a b ha, (Below.heap_setCell _ ⟨R a, b, none⟩ _ gb (types_neE h.box (h.mat.row a ha) (by decide)).1).trans h.box, Kd.R_mono (R_setE h.row (h.mat.row a ha) kp_types4 b _) (fun _ _ => trivial), h.out.set _ _ _ (Or.inr ⟨a, ha, rfl⟩)⟩
set_option maxHeartbeats 4000000 in
set_option maxRecDepth 100000 in
theorem out_calls {w : World} {N base A B : Nat} {K : Cap} {R G : Nat → Nat} {L : Nat} (hM : Mat w N base A B K R G L) (hN : N ≤ 16) (v : Nat) (hv : v < N) :
    Calls Try.prog 45 #[gval N A B K, .int .i64 (v : Int)] w fun e w' => e = .returned (.tuple #[]) ∧ Mat w' N base A B K R (addL G (rfill G L N v)) (cb L v) ∧ OutK w w' N B R := by
  have hu61 := Try.underlying61
  have hB0 : (w.alloc (gbox N A B K)).heap[w.heap.size]? = some (gbox N A B K) := blk_new w _
  obtain ⟨hb0, hb1⟩ := boxC hB0
  have hM2 := hM.alloc (gbox N A B K)
  have hO2 : OutK w (w.alloc (gbox N A B K)) N B R := (OutK.ofBelow (Below.refl _ _)).alloc _
  have H1 := Aside0.mk (rfill_calls hM2 hN v hv)
  have hcall : gval N A B K = .agg #[.slice (some ⟨A, 0, none⟩) N K.a, .slice (some ⟨B, 0, none⟩) N K.b] := rfl
  rw [hcall] at H1 ⊢
  clear hM
  go_enter Try.func45, Try.ntmps45
  go_wp2_with fail
  refine H1.out.mono ?_
  rintro e w2 ⟨v2, rfl, hR, hB⟩
  have HI0 : OutI w w2 N base w.heap.size A B K R G L v2 (rfill G L N v) := ⟨hM2.below hB, blk_below hB0 hB, Kd.R_lower hR (by simp), hO2.trans (.ofBelow hB)⟩
  have hmem := Aside0.mk (fun p (hp : p ∈ rfill G L N v) => rfill_mem hp)
  have hlen : (rfill G L N v).length ≤ 256 := by
    have h1 : (nb G L N v).length ≤ N := nbA_len G L N v 0
    have h2 := rfA_len G (nb G L N v)
    have h3 : (nb G L N v).length * (nb G L N v).length ≤ 16 * 16 := Nat.mul_le_mul (by omega) (by omega)
    show (rfA G (nb G L N v)).length ≤ 256
    omega
  generalize hFL : rfill G L N v = fl at *
  have HFL := Aside0.mk hFL
  clear hFL
  clear hM2 hB0 hb0 hb1 hB hO2 hR H1 hcall
  obtain ⟨A2, c2, rfl, hc2, hC2⟩ := Kd.R_reads HI0.row
  clear hC2
  go_wp2
  go_loopw [10] (fun s10 wr => ∃ k : Nat, ∃ H : Nat → Nat, k ≤ fl.length ∧ s10 = .int .i64 (k : Int) ∧ Aside0 (addL H (fl.drop k) = addL G fl) ∧ OutI w wr N base w.heap.size A B K R H L (.slice A2 fl.length c2) fl) (fun s10 _ => (fl.length - (intOf s10).toNat))
  case atStart => exact ⟨0, G, by omega, rfl, ⟨rfl⟩, HI0⟩
  case round =>
    clear HI0
    obtain ⟨k, H, hk, rfl, HE, HI⟩ := hrel
    by_cases hlt : k < fl.length
    · have hkd : decide (k < fl.length) = true := decide_eq_true hlt
      obtain ⟨_, _, hC⟩ := Kd.R_reads' HI.row
      obtain ⟨ad, had, hx, hy⟩ := kp_at hC k hlt
      have hd := Aside0.mk (drop_getD (0, 0) fl k hlt)
      obtain ⟨a, b, hab, hbN, hp, _⟩ := hmem.out _ (getD_mem (0, 0) fl k hlt)
      rw [hp] at hx hy hd
      have hx' : wr.cell? (ad.add (k * 2)) = some (.int .i64 (a : Int)) := hx
      have hy' : wr.cell? ⟨(ad.add (k * 2)).block, (ad.add (k * 2)).off + 1, none⟩ = some (.int .i64 (b : Int)) := hy
      have haN : a < N := by omega
      have HA := HI.alloc (.cells #[.int .i64 (a : Int), .int .i64 (b : Int)] 48)
      obtain ⟨hb0, hb1⟩ := boxC HA.box
      have hna := HA.mat.nearC a haN
      have hnb := HA.mat.nearC b hbN
      have hra := HA.mat.rowC a b haN hbN
      have hrfa := HA.mat.rowF a b haN
      have hrb := HA.mat.rowC b a hbN haN
      have hrfb := HA.mat.rowF b a hbN
      have hne : R a ≠ R b := fun e => by have := HA.mat.inj a b haN hbN e; omega
      have hne2 : R b ≠ R a := fun e => hne e.symm
      have hwa : R a ≠ wr.heap.size := Nat.ne_of_lt (blk_ltE (HI.mat.row a haN))
      have hwb : R b ≠ wr.heap.size := Nat.ne_of_lt (blk_ltE (HI.mat.row b hbN))
      have hwa2 : wr.heap.size ≠ R a := fun e => hwa e.symm
      have hwb2 : wr.heap.size ≠ R b := fun e => hwb e.symm
      obtain ⟨hga, hga2⟩ := types_neE HI.box (HI.mat.row a haN) (by decide)
      obtain ⟨hgb, hgb2⟩ := types_neE HI.box (HI.mat.row b hbN) (by decide)
      obtain ⟨hAa, hAa2⟩ := types_neEE HI.mat.near (HI.mat.row a haN) (by decide)
      obtain ⟨hAb, hAb2⟩ := types_neEE HI.mat.near (HI.mat.row b hbN) (by decide)
      have HZ := Aside0.mk (((HA.add a b haN).add b a hbN).drew)
      have hT : Aside0 (addL (up (up H a (sb (H a) b)) b (sb (up H a (sb (H a) b) b) a)) (fl.drop (k + 1)) = addL G fl) := ⟨by rw [← HE.out, hd.out]; rfl⟩
      subst had
      clear hx hy hC hp HE hd hab HA
      go_wp2
      go_region
      go_wp2
      go_roundw
      case rel => exact ⟨k + 1, _, by omega, by go_num, hT, HZ.out⟩
      case measure => simp [intOf]; omega
    · obtain rfl : k = fl.length := by omega
      have hend : addL G fl = H := by rw [← HE.out, List.drop_length]; rfl
      obtain ⟨hb0, hb1⟩ := boxC HI.box
      have hl := HI.mat.leftC v hv
      have hlf := HI.mat.leftF v
      go_wp2
      go_end0
      rw [HFL.out, hend]
      exact ⟨rfl, HI.mat.unleft v hN, HI.out.set _ _ _ (Or.inl rfl)⟩

end Go.Proofs.Ytnnaakinchophaa.Ord.G
