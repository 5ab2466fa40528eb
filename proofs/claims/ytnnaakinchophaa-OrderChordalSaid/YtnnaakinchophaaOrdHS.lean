/- Rows of slices that are not the call's own: read as values; conditions as written. -/
import Derived.Test.YtnnaakinchophaaOrdN
namespace Go.Proofs.Ytnnaakinchophaa.Ord
set_option linter.unusedVariables false
set_option linter.unusedSimpArgs false
open Go.RowKit Go.Proofs.YtnnaakinchophaaW.PrintWords Go.Proofs.YtnnaakinchophaaW.PrintLast Go.Proofs.YtnnaakinchophaaW.PrintMore
/-- A slice, as a value: where, how long, how much room. -/
abbrev ST := Option Addr × Nat × Nat
def ks : Kd ST := Kd.scalar (fun t => .slice t.1 t.2.1 t.2.2) (fun _ => rfl)
/-- The slice t reads as x. -/
structure Sl (w : World) (t : ST) (x : List Int) : Prop where
  len : t.2.1 = x.length
  cap : x.length ≤ t.2.2
  row : Kd.C (Kd.int .i64) w t.1 x.length x
theorem Sl.below {w w1 : World} {t : ST} {x : List Int} (h : Sl w t x) (hb : Below w.heap.size w w1) : Sl w1 t x := ⟨h.len, h.cap, Kd.C_below h.row hb⟩
/-- The slices T read as the rows l. -/
inductive SRows (w : World) : List ST → List (List Int) → Prop
  | nil : SRows w [] []
  | cons {t : ST} {x : List Int} {T : List ST} {l : List (List Int)} : Sl w t x → SRows w T l → SRows w (t :: T) (x :: l)
theorem SRows.low {w w1 : World} {T : List ST} {l : List (List Int)} (h : SRows w T l) (hb : Below w.heap.size w w1) : SRows w1 T l := by
  induction h with
  | nil => exact .nil
  | cons h1 _ ih => exact .cons (h1.below hb) ih
theorem SRows.len {w : World} {T : List ST} {l : List (List Int)} (h : SRows w T l) : T.length = l.length := by
  induction h with
  | nil => rfl
  | cons h1 _ ih => simp [ih]
theorem SRows.append {w : World} {T T2 : List ST} {l l2 : List (List Int)} (h : SRows w T l) (h2 : SRows w T2 l2) : SRows w (T ++ T2) (l ++ l2) := by
  induction h with
  | nil => exact h2
  | cons h1 _ ih => exact .cons h1 ih
theorem SRows.snoc {w : World} {T : List ST} {l : List (List Int)} (h : SRows w T l) {t : ST} {x : List Int} (h2 : Sl w t x) : SRows w (T ++ [t]) (l ++ [x]) := h.append (.cons h2 .nil)
theorem SRows.get {w : World} {T : List ST} {l : List (List Int)} (h : SRows w T l) : ∀ (j : Nat) (x : List Int), l[j]? = some x → ∃ t : ST, T[j]? = some t ∧ Sl w t x := by
  induction h with
  | nil => intro j x hx; simp at hx
  | cons h1 _ ih =>
    intro j x hx
    cases j with
    | zero => simp at hx; subst hx; exact ⟨_, rfl, h1⟩
    | succ j => exact ih j x (by simpa using hx)
/-- Rows read are slices read. -/
theorem C_split {w : World} {A : Option Addr} {l : List (List Int)} (h : Kd.C kl w A l.length l) : ∃ T : List ST, Kd.C ks w A T.length T ∧ SRows w T l := by
  have key : ∀ (ad : Addr) (m : List (List Int)) (o : Nat), (∀ j x, m[j]? = some x → ∃ c, c.length = 1 ∧ kl.K w x c ∧ ∀ i u, c[i]? = some u → w.cell? (ad.add ((o + j) * 1 + i)) = some u) → ∃ T : List ST, (∀ j t, T[j]? = some t → w.cell? (ad.add (o + j)) = some (.slice t.1 t.2.1 t.2.2)) ∧ SRows w T m := by
    intro ad m
    induction m with
    | nil => intro o _; exact ⟨[], fun j t h => by simp at h, .nil⟩
    | cons x r ih =>
      intro o hm
      obtain ⟨c, hc1, ⟨A0, c0, rfl, hc0, hr⟩, hcell⟩ := hm 0 x rfl
      obtain ⟨T, hT, hS⟩ := ih (o + 1) (fun j y hy => by
        obtain ⟨c, h1, h2, h3⟩ := hm (j + 1) y (by simpa using hy)
        exact ⟨c, h1, h2, fun i u hu => by rw [show o + 1 + j = o + (j + 1) by omega]; exact h3 i u hu⟩)
      refine ⟨(A0, x.length, c0) :: T, fun j t ht => ?_, .cons ⟨rfl, hc0, hr⟩ hS⟩
      cases j with
      | zero =>
        simp at ht
        subst ht
        have := hcell 0 _ rfl
        simpa using this
      | succ j =>
        rw [show o + (j + 1) = o + 1 + j by omega]
        exact hT j t (by simpa using ht)
  obtain ⟨h1, h2, h3⟩ := h
  rcases Nat.eq_zero_or_pos l.length with h0 | h0
  · have : l = [] := List.length_eq_zero_iff.1 h0
    subst this
    exact ⟨[], ⟨rfl, h2, fun hp => absurd hp (Nat.lt_irrefl _)⟩, .nil⟩
  · obtain ⟨ad, e, hc⟩ := h3 h0
    obtain ⟨T, hT, hS⟩ := key ad l 0 (fun j x hx => by
      obtain ⟨c, a, b, d⟩ := hc j x hx
      exact ⟨c, a, b, fun i u hu => by rw [Nat.zero_add]; exact d i u hu⟩)
    refine ⟨T, ⟨rfl, by rw [hS.len]; exact h2, fun _ => ⟨ad, e, fun j t ht => ⟨[.slice t.1 t.2.1 t.2.2], rfl, rfl, fun i u hu => ?_⟩⟩⟩, hS⟩
    cases i with
    | zero =>
      simp at hu
      subst hu
      have := hT j t ht
      rw [Nat.zero_add] at this
      show w.cell? (ad.add (j * 1 + 0)) = _
      rw [Nat.mul_one, Nat.add_zero]
      exact this
    | succ i => simp at hu
/-- Slices read are rows read. -/
theorem C_join {w : World} {A : Option Addr} {T : List ST} {l : List (List Int)} (h : Kd.C ks w A T.length T) (hS : SRows w T l) : Kd.C kl w A l.length l := by
  obtain ⟨h1, h2, h3⟩ := h
  refine ⟨rfl, by rw [← hS.len]; exact h2, fun hp => ?_⟩
  obtain ⟨ad, e, hc⟩ := h3 (by rw [hS.len]; exact hp)
  refine ⟨ad, e, fun j x hx => ?_⟩
  obtain ⟨t, ht, hs⟩ := hS.get j x hx
  obtain ⟨c, a, b, d⟩ := hc j t ht
  have b2 : c = [.slice t.1 t.2.1 t.2.2] := b
  refine ⟨c, a, ⟨t.1, t.2.2, ?_, hs.cap, hs.row⟩, d⟩
  rw [b2, hs.len]
theorem ks_types : ∀ q, q ∈ 25 :: ks.E → q = 25 := by
  intro q hq
  simpa [ks, Kd.scalar] using hq
/-- Slices of two numbers, each in a block of its own. -/
inductive PRows (w : World) : List ST → List (Int × Int) → Prop
  | nil : PRows w [] []
  | cons {g : Nat} {p : Int × Int} {T : List ST} {ps : List (Int × Int)} : w.heap[g]? = some (.cells #[.int .i64 p.1, .int .i64 p.2] 3 (0, 0)) → PRows w T ps → PRows w ((some ⟨g, 0, none⟩, 2, 2) :: T) (p :: ps)
theorem PRows.move {w w1 : World} {T : List ST} {ps : List (Int × Int)} (h : PRows w T ps) (hm : ∀ (g : Nat) (cells : Array Value), w.heap[g]? = some (.cells cells 3 (0, 0)) → w1.heap[g]? = w.heap[g]?) : PRows w1 T ps := by
  induction h with
  | nil => exact .nil
  | cons h1 _ ih => exact .cons ((hm _ _ h1).trans h1) ih
theorem PRows.low {w w1 : World} {T : List ST} {ps : List (Int × Int)} (h : PRows w T ps) (hb : Below w.heap.size w w1) : PRows w1 T ps := h.move (fun g cells hg => hb.block g (blk_lt hg))
theorem PRows.snoc {w : World} {T : List ST} {ps : List (Int × Int)} (h : PRows w T ps) {g : Nat} {p : Int × Int} (hg : w.heap[g]? = some (.cells #[.int .i64 p.1, .int .i64 p.2] 3 (0, 0))) : PRows w (T ++ [(some ⟨g, 0, none⟩, 2, 2)]) (ps ++ [p]) := by
  induction h with
  | nil => exact .cons hg .nil
  | cons h1 _ ih => exact .cons h1 ih
theorem PRows.rows {w : World} {T : List ST} {ps : List (Int × Int)} (h : PRows w T ps) : SRows w T (ps.map fun p => [p.1, p.2]) := by
  induction h with
  | nil => exact .nil
  | @cons g p T ps h1 _ ih =>
    refine .cons ⟨rfl, Nat.le_refl _, ⟨rfl, (show (2 : Nat) ≤ 9223372036854775807 by decide), fun _ => ⟨⟨g, 0, none⟩, rfl, fun j q hj => ?_⟩⟩⟩ ih
    refine ⟨[.int .i64 q], rfl, rfl, fun i u hu => ?_⟩
    cases i with
    | succ i => simp at hu
    | zero =>
      simp at hu
      subst hu
      have hc := fun k => blk_cell h1 k
      have e : (⟨g, 0, none⟩ : Addr).add (j * 1 + 0) = ⟨g, j, none⟩ := by
        unfold Addr.add
        split
        · rename_i e; simp at e; subst e; rfl
        · simp
      show w.cell? ((⟨g, 0, none⟩ : Addr).add (j * 1 + 0)) = _
      rw [e, hc j]
      rcases (show j = 0 ∨ j = 1 ∨ 2 ≤ j by omega) with rfl | rfl | h2
      · simp at hj; subst hj; rfl
      · simp at hj; subst hj; rfl
      · rw [List.getElem?_eq_none (by simpa using h2)] at hj; cases hj
/-- Scopes and pairs in one row under way. -/
structure AlI (W0 wr : World) (s : Value) (T0 T1 : List ST) (ps : List (Int × Int)) : Prop where
  row : Kd.R ks 25 wr W0.heap.size (fun _ => True) s (T0 ++ T1)
  prs : PRows wr T1 ps
  bel : Below W0.heap.size W0 wr
theorem AlI.low {W0 wr w1 : World} {s : Value} {T0 T1 : List ST} {ps : List (Int × Int)} (h : AlI W0 wr s T0 T1 ps) (hb : Below wr.heap.size wr w1) : AlI W0 w1 s T0 T1 ps := ⟨Kd.R_below h.row hb, h.prs.low hb, below_step h.bel hb⟩
theorem AlI.alloc {W0 wr : World} {s : Value} {T0 T1 : List ST} {ps : List (Int × Int)} (h : AlI W0 wr s T0 T1 ps) (o : Obj) : AlI W0 (wr.alloc o) s T0 T1 ps := h.low ((Below.refl _ _).alloc (Nat.le_refl _) o)
theorem AlI.push {W0 W w1 : World} {s v1 : Value} {T0 T1 : List ST} {ps : List (Int × Int)} {g : Nat} {p : Int × Int} (h : AlI W0 W s T0 T1 ps) (hp : W.heap[g]? = some (.cells #[.int .i64 p.1, .int .i64 p.2] 3 (0, 0))) (ho : Kd.R ks 25 w1 W0.heap.size (fun _ => True) v1 ((T0 ++ T1) ++ [(some ⟨g, 0, none⟩, 2, 2)])) (hb : Below W0.heap.size W0 w1) (hg : W.grownBy w1 s.ownBlock) : AlI W0 w1 v1 T0 (T1 ++ [(some ⟨g, 0, none⟩, 2, 2)]) (ps ++ [p]) :=
  ⟨by rw [← List.append_assoc]; exact ho, (h.prs.snoc hp).move (fun k cells hk => hg.block k (blk_lt hk) (Kd.R_ne h.row hk (by decide))), hb⟩
theorem AlI.read {W0 wr : World} {A : Option Addr} {c : Nat} {T0 T1 : List ST} {ps : List (Int × Int)} {l : List (List Int)} (h : AlI W0 wr (.slice A (T0 ++ T1).length c) T0 T1 ps) (hl : SRows W0 T0 l) : Kd.C kl wr A (l ++ ps.map fun p => [p.1, p.2]).length (l ++ ps.map fun p => [p.1, p.2]) :=
  C_join (Kd.R_reads' h.row).2.2 ((hl.low h.bel).append h.prs.rows)
theorem ks_empty (w : World) (base : Nat) (hb : base ≤ w.heap.size) : Kd.R ks 25 (w.alloc (.cells #[] 25)) base (fun _ => True) (.slice (some ⟨w.heap.size, 0, none⟩) 0 0) [] := Kd.R_of_own (by
  have h := own_lit_of (enc := fun t : ST => Value.slice t.1 t.2.1 t.2.2) w base 25 [] hb (by decide)
  exact h) (fun _ _ => trivial)
theorem few_small {n : Int} {M : Nat} {l : List (List Int)} (hM : M ≤ 16) (h : rightF (fewN n (M : Int)) l = true) : ∃ N : Nat, fewN n (M : Int) = (N : Int) ∧ N ≤ M := by
  have hT := rightF_true h
  obtain ⟨N, hN⟩ := Int.eq_ofNat_of_zero_le hT.1
  refine ⟨N, hN, ?_⟩
  have h1 := hT.2.1
  unfold fewN at hN h1
  split at hN
  · omega
  · rename_i hc
    omega
end Go.Proofs.Ytnnaakinchophaa.Ord
