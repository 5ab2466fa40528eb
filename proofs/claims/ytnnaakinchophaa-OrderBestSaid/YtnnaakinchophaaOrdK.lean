/- The reference's graph of layer 27: a matrix in memory; conditions as written. -/
import Derived.Test.YtnnaakinchophaaOrdJ
namespace Go.Proofs.Ytnnaakinchophaa.Ord
set_option linter.unusedVariables false
set_option linter.unusedSimpArgs false
open Go.RowKit Go.Proofs.YtnnaakinchophaaW.PrintWords Go.Proofs.YtnnaakinchophaaW.PrintLast Go.Proofs.YtnnaakinchophaaW.PrintMore

/-! ### Cells by a function -/
def tab (n : Nat) (f : Nat → Value) : Array Value := Array.ofFn (n := n) fun i => f i.val
theorem tab_get {n : Nat} {f : Nat → Value} (i : Nat) (h : i < n) : (tab n f)[i]? = some (f i) := by simp [tab, h]
theorem tab_get? (n : Nat) (f : Nat → Value) (i : Nat) : (tab n f)[i]? = if i < n then some (f i) else none := by
  by_cases h : i < n <;> simp [tab, h]
theorem tab_size (n : Nat) (f : Nat → Value) : (tab n f).size = n := by simp [tab]
theorem tab_set (n : Nat) (f : Nat → Value) (i : Nat) (v : Value) : (tab n f).setIfInBounds i v = tab n (fun j => if j = i then v else f j) := by
  apply Array.ext_getElem?
  intro j
  rw [Array.getElem?_setIfInBounds, tab_get?, tab_get?, tab_size]
  by_cases e : j = i
  · subst e
    rw [if_pos rfl, if_pos rfl]
  · rw [if_neg (fun h => e h.symm), if_neg e]
theorem tab_congr {n : Nat} {f g : Nat → Value} (h : ∀ i, i < n → f i = g i) : tab n f = tab n g := by
  apply Array.ext_getElem?
  intro j
  rw [tab_get?, tab_get?]
  by_cases e : j < n
  · rw [if_pos e, if_pos e, h j e]
  · rw [if_neg e, if_neg e]
theorem tab_made (n : Nat) (z : Value) : madeCells #[z] n = tab n (fun _ => z) := by
  apply Array.ext_getElem?
  intro j
  rw [tab_get?]
  by_cases e : j < n
  · simp [e, madeCells, Nat.mod_one]
  · simp [e, madeCells]
/-! ### The matrix -/
structure Mat (w : World) (n base A B : Nat) (R N : Nat → Nat) (L : Nat) : Prop where
  near : w.heap[A]? = some (.cells (tab n fun k => .slice (some ⟨R k, 0, none⟩) n n) 59 (0, 0))
  left : w.heap[B]? = some (.cells (tab n fun k => .bool (L.testBit k)) 4 (0, 0))
  row : ∀ k, k < n → w.heap[R k]? = some (.cells (tab n fun j => .bool ((N k).testBit j)) 4 (0, 0))
  inj : ∀ i j, i < n → j < n → R i = R j → i = j
  neB : ∀ i, i < n → R i ≠ B
  baseA : base ≤ A
  baseB : base ≤ B
  baseR : ∀ i, i < n → base ≤ R i
theorem Mat.neA {w : World} {n base A B : Nat} {R N : Nat → Nat} {L : Nat} (h : Mat w n base A B R N L) (i : Nat) (hi : i < n) : R i ≠ A := fun e => by
  have h1 := h.row i hi
  rw [e, h.near] at h1
  have := Option.some.inj h1
  injection this with _ h2
  cases h2
theorem Mat.neAB {w : World} {n base A B : Nat} {R N : Nat → Nat} {L : Nat} (h : Mat w n base A B R N L) : A ≠ B := fun e => by
  have h1 := h.left
  rw [← e, h.near] at h1
  have := Option.some.inj h1
  injection this with _ h2
  cases h2
theorem Mat.nearC {w : World} {n base A B : Nat} {R N : Nat → Nat} {L : Nat} (h : Mat w n base A B R N L) (k : Nat) (hk : k < n) : w.cell? ⟨A, k, none⟩ = some (.slice (some ⟨R k, 0, none⟩) n n) := (blk_cell h.near k).trans (tab_get k hk)
theorem Mat.leftC {w : World} {n base A B : Nat} {R N : Nat → Nat} {L : Nat} (h : Mat w n base A B R N L) (k : Nat) (hk : k < n) : w.cell? ⟨B, k, none⟩ = some (.bool (L.testBit k)) := (blk_cell h.left k).trans (tab_get k hk)
theorem Mat.rowC {w : World} {n base A B : Nat} {R N : Nat → Nat} {L : Nat} (h : Mat w n base A B R N L) (k j : Nat) (hk : k < n) (hj : j < n) : w.cell? ⟨R k, j, none⟩ = some (.bool ((N k).testBit j)) := (blk_cell (h.row k hk) j).trans (tab_get j hj)
theorem Mat.leftF {w : World} {n base A B : Nat} {R N : Nat → Nat} {L : Nat} (h : Mat w n base A B R N L) (k : Nat) : w.frozen? ⟨B, k, none⟩ = false := blk_frozen h.left k
theorem Mat.rowF {w : World} {n base A B : Nat} {R N : Nat → Nat} {L : Nat} (h : Mat w n base A B R N L) (k j : Nat) (hk : k < n) : w.frozen? ⟨R k, j, none⟩ = false := blk_frozen (h.row k hk) j
theorem Mat.move {w w1 : World} {n base A B : Nat} {R N : Nat → Nat} {L : Nat} (h : Mat w n base A B R N L) (hm : ∀ k, k < w.heap.size → w1.heap[k]? = w.heap[k]?) : Mat w1 n base A B R N L :=
  ⟨(hm _ (blk_lt h.near)).trans h.near, (hm _ (blk_lt h.left)).trans h.left, fun k hk => (hm _ (blk_lt (h.row k hk))).trans (h.row k hk), h.inj, h.neB, h.baseA, h.baseB, h.baseR⟩
theorem Mat.below {w w1 : World} {n base A B : Nat} {R N : Nat → Nat} {L : Nat} (h : Mat w n base A B R N L) (hb : Below w.heap.size w w1) : Mat w1 n base A B R N L := h.move hb.block
theorem Mat.drew {w : World} {n base A B : Nat} {R N : Nat → Nat} {L : Nat} (h : Mat w n base A B R N L) : Mat w.drew n base A B R N L := ⟨h.near, h.left, h.row, h.inj, h.neB, h.baseA, h.baseB, h.baseR⟩
theorem Mat.drewN {w : World} {n base A B : Nat} {R N : Nat → Nat} {L : Nat} (h : Mat w n base A B R N L) (m : Nat) : Mat (w.drewN m) n base A B R N L := ⟨h.near, h.left, h.row, h.inj, h.neB, h.baseA, h.baseB, h.baseR⟩
theorem Mat.alloc {w : World} {n base A B : Nat} {R N : Nat → Nat} {L : Nat} (h : Mat w n base A B R N L) (o : Obj) : Mat (w.alloc o) n base A B R N L := h.move (fun k hk => Below.heap_alloc w o k hk)
theorem Mat.lower {w : World} {n base base' A B : Nat} {R N : Nat → Nat} {L : Nat} (h : Mat w n base A B R N L) (hb : base' ≤ base) : Mat w n base' A B R N L := ⟨h.near, h.left, h.row, h.inj, h.neB, Nat.le_trans hb h.baseA, Nat.le_trans hb h.baseB, fun i hi => Nat.le_trans hb (h.baseR i hi)⟩
theorem Mat.set {w : World} {n base A B : Nat} {R N : Nat → Nat} {L : Nat} (h : Mat w n base A B R N L) (k j X : Nat) (b : Bool) (hk : k < n) (hX : ∀ i, i < n → X.testBit i = if i = j then b else (N k).testBit i) : Mat (w.setCell ⟨R k, j, none⟩ (.bool b)) n base A B R (up N k X) L where
  near := (Below.heap_setCell w ⟨R k, j, none⟩ _ A (fun e => h.neA k hk e.symm)).trans h.near
  left := (Below.heap_setCell w ⟨R k, j, none⟩ _ B (fun e => h.neB k hk e.symm)).trans h.left
  row := fun i hi => by
    by_cases e : i = k
    · subst e
      rw [blk_set (h.row i hi) j _, tab_set, up_same]
      congr 2
      refine tab_congr fun q hq => ?_
      rw [hX q hq]
      split <;> rfl
    · rw [up_other _ _ e]
      exact (Below.heap_setCell w ⟨R k, j, none⟩ _ (R i) (fun e2 => e (h.inj i k hi hk e2))).trans (h.row i hi)
  inj := h.inj
  neB := h.neB
  baseA := h.baseA
  baseB := h.baseB
  baseR := h.baseR
theorem Mat.add {w : World} {n base A B : Nat} {R N : Nat → Nat} {L : Nat} (h : Mat w n base A B R N L) (k j : Nat) (hk : k < n) : Mat (w.setCell ⟨R k, j, none⟩ (.bool true)) n base A B R (up N k (sb (N k) j)) L :=
  h.set k j _ true hk fun i _ => by
    rw [sb_bit]
    by_cases e : i = j
    · simp [e]
    · simp [e]
theorem Mat.same {w : World} {n base A B : Nat} {R N : Nat → Nat} {L : Nat} (h : Mat w n base A B R N L) (k j : Nat) (hk : k < n) : Mat (w.setCell ⟨R k, j, none⟩ (.bool ((N k).testBit j))) n base A B R N L := by
  have h1 := h.set k j (N k) ((N k).testBit j) hk fun i _ => by
    by_cases e : i = j
    · simp [e]
    · simp [e]
  have e : up N k (N k) = N := by
    funext i
    unfold up
    split
    · rename_i e; rw [e]
    · rfl
  rwa [e] at h1
theorem Mat.unleft {w : World} {n base A B : Nat} {R N : Nat → Nat} {L : Nat} (h : Mat w n base A B R N L) (v : Nat) (hn : n ≤ 16) : Mat (w.setCell ⟨B, v, none⟩ (.bool false)) n base A B R N (cb L v) where
  near := (Below.heap_setCell w ⟨B, v, none⟩ _ A h.neAB).trans h.near
  left := by
    rw [blk_set h.left v _, tab_set]
    congr 2
    refine tab_congr fun q hq => ?_
    rw [cb_bit L v q (by omega)]
    by_cases e : q = v
    · simp [e]
    · simp [e]
  row := fun i hi => (Below.heap_setCell w ⟨B, v, none⟩ _ (R i) (h.neB i hi)).trans (h.row i hi)
  inj := h.inj
  neB := h.neB
  baseA := h.baseA
  baseB := h.baseB
  baseR := h.baseR
/-- The matrix before its rows k and after are made. -/
structure MatK (w : World) (n k base A B : Nat) (R : Nat → Nat) : Prop where
  near : w.heap[A]? = some (.cells (tab n fun i => if i < k then .slice (some ⟨R i, 0, none⟩) n n else .slice none 0 0) 59 (0, 0))
  left : w.heap[B]? = some (.cells (tab n fun i => .bool (decide (i < k))) 4 (0, 0))
  row : ∀ i, i < k → w.heap[R i]? = some (.cells (tab n fun j => .bool false) 4 (0, 0))
  inj : ∀ i j, i < k → j < k → R i = R j → i = j
  neB : ∀ i, i < k → R i ≠ B
  baseA : base ≤ A
  baseB : base ≤ B
  baseR : ∀ i, i < k → base ≤ R i
theorem MatK.mat {w : World} {n base A B : Nat} {R : Nat → Nat} (h : MatK w n n base A B R) : Mat w n base A B R (fun _ => 0) (2 ^ n - 1) where
  near := by
    rw [h.near]
    congr 2
    exact tab_congr fun i hi => if_pos hi
  left := by
    rw [h.left]
    congr 2
    exact tab_congr fun i hi => by rw [Nat.testBit_two_pow_sub_one]
  row := fun k hk => by
    rw [h.row k hk]
    congr 2
    exact tab_congr fun i hi => by rw [Nat.zero_testBit]
  inj := h.inj
  neB := h.neB
  baseA := h.baseA
  baseB := h.baseB
  baseR := h.baseR
theorem MatK.neAB {w : World} {n k base A B : Nat} {R : Nat → Nat} (h : MatK w n k base A B R) : A ≠ B := fun e => by
  have h1 := h.left
  rw [← e, h.near] at h1
  have := Option.some.inj h1
  injection this with _ h2
  cases h2
theorem MatK.neA {w : World} {n k base A B : Nat} {R : Nat → Nat} (h : MatK w n k base A B R) (i : Nat) (hi : i < k) : R i ≠ A := fun e => by
  have h1 := h.row i hi
  rw [e, h.near] at h1
  have := Option.some.inj h1
  injection this with _ h2
  cases h2
theorem MatK.step {w : World} {n k base A B : Nat} {R : Nat → Nat} (h : MatK w n k base A B R) (hk : k < n) (hb : base ≤ w.heap.size) :
    MatK (((w.alloc (.cells (tab n fun _ => .bool false) 4)).setCell ⟨A, k, none⟩ (.slice (some ⟨w.heap.size, 0, none⟩) n n)).setCell ⟨B, k, none⟩ (.bool true)) n (k + 1) base A B (up R k w.heap.size) := by
  have hA := blk_lt h.near
  have hB := blk_lt h.left
  have hR := fun i hi => blk_lt (h.row i hi)
  have e2 : ∀ q, q ≠ A → q ≠ B → (((w.alloc (.cells (tab n fun _ => .bool false) 4)).setCell ⟨A, k, none⟩ (.slice (some ⟨w.heap.size, 0, none⟩) n n)).setCell ⟨B, k, none⟩ (.bool true)).heap[q]? = (w.alloc (.cells (tab n fun _ => .bool false) 4)).heap[q]? := fun q h1 h2 =>
    (Below.heap_setCell _ ⟨B, k, none⟩ _ q h2).trans (Below.heap_setCell _ ⟨A, k, none⟩ _ q h1)
  refine ⟨?_, ?_, ?_, ?_, ?_, h.baseA, h.baseB, ?_⟩
  · rw [Below.heap_setCell _ ⟨B, k, none⟩ _ A h.neAB, blk_set (blk_alloc h.near _) k _, tab_set]
    congr 2
    refine tab_congr fun i hi => ?_
    unfold up
    by_cases e : i = k
    · subst e; simp
    · have : i < k + 1 ↔ i < k := by omega
      simp [e, this]
  · refine (blk_set ((Below.heap_setCell _ ⟨A, k, none⟩ _ B h.neAB.symm).trans (blk_alloc h.left _)) k _).trans ?_
    rw [tab_set]
    congr 2
    refine tab_congr fun i hi => ?_
    by_cases e : i = k
    · subst e; simp
    · have : i < k + 1 ↔ i < k := by omega
      simp [e, this]
  · intro i hi
    by_cases e : i = k
    · subst e
      rw [up_same, e2 _ (by omega) (by omega)]
      exact blk_new w _
    · have := hR i (by omega)
      rw [up_other _ _ e, e2 _ (h.neA i (by omega)) (h.neB i (by omega))]
      exact blk_alloc (h.row i (by omega)) _
  · intro i j hi hj
    unfold up
    by_cases e1 : i = k <;> by_cases e2 : j = k
    · omega
    · have := hR j (by omega)
      simp only [e1, e2, if_true, if_false]
      omega
    · have := hR i (by omega)
      simp only [e1, e2, if_true, if_false]
      omega
    · simp only [e1, e2, if_false]
      exact h.inj i j (by omega) (by omega)
  · intro i hi
    unfold up
    by_cases e : i = k
    · simp only [e, if_true]; omega
    · simp only [e, if_false]; exact h.neB i (by omega)
  · intro i hi
    unfold up
    by_cases e : i = k
    · simp only [e, if_true]; omega
    · simp only [e, if_false]; exact h.baseR i (by omega)
end Go.Proofs.Ytnnaakinchophaa.Ord
