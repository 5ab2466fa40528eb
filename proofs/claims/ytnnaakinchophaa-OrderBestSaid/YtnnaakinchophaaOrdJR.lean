/- Rows of slices that are not the call's own: read as values; conditions as written. -/
import Derived.Test.YtnnaakinchophaaOrdN
import Derived.Test.YtnnaakinchophaaOrdXZ
import Derived.Test.YtnnaakinchophaaOrdGR
namespace Go.Proofs.Ytnnaakinchophaa.Ord
section
set_option linter.unusedVariables false
set_option linter.unusedSimpArgs false
open Go.RowKit Go.Proofs.YtnnaakinchophaaW.PrintWords Go.Proofs.YtnnaakinchophaaW.PrintLast Go.Proofs.YtnnaakinchophaaW.PrintMore
/-- A slice, as a value: where, how long, how much room. -/
abbrev ST := Option Addr × Nat × Nat
def ks : Kd ST := Kd.scalar (fun t => .slice t.1 t.2.1 t.2.2) (fun _ => rfl)
/-- The slice t reads as x. -/
structure Sl (w : World) (t : ST) (x : List Int) : Prop where
  len : t.2.1 = x.length
  cap : x.length ≤ t.2.2
  row : Kd.C (Kd.int .i64) w t.1 x.length x
theorem Sl.below {w w1 : World} {t : ST} {x : List Int} (h : Sl w t x) (hb : Below w.heap.size w w1) : Sl w1 t x := ⟨h.len, h.cap, Kd.C_below h.row hb⟩
/-- The slices T read as the rows l. -/
inductive SRows (w : World) : List ST → List (List Int) → Prop
  | nil : SRows w [] []
  | cons {t : ST} {x : List Int} {T : List ST} {l : List (List Int)} : Sl w t x → SRows w T l → SRows w (t :: T) (x :: l)
theorem SRows.low {w w1 : World} {T : List ST} {l : List (List Int)} (h : SRows w T l) (hb : Below w.heap.size w w1) : SRows w1 T l := by
  induction h with
  | nil => exact .nil
  | cons h1 _ ih => exact .cons (h1.below hb) ih
theorem SRows.len {w : World} {T : List ST} {l : List (List Int)} (h : SRows w T l) : T.length = l.length := by
  induction h with
  | nil => rfl
  | cons h1 _ ih => simp [ih]
theorem SRows.append {w : World} {T T2 : List ST} {l l2 : List (List Int)} (h : SRows w T l) (h2 : SRows w T2 l2) : SRows w (T ++ T2) (l ++ l2) := by
  induction h with
  | nil => exact h2
  | cons h1 _ ih => exact .cons h1 ih
theorem SRows.snoc {w : World} {T : List ST} {l : List (List Int)} (h : SRows w T l) {t : ST} {x : List Int} (h2 : Sl w t x) : SRows w (T ++ [t]) (l ++ [x]) := h.append (.cons h2 .nil)
theorem SRows.get {w : World} {T : List ST} {l : List (List Int)} (h : SRows w T l) : ∀ (j : Nat) (x : List Int), l[j]? = some x → ∃ t : ST, T[j]? = some t ∧ Sl w t x := by
  induction h with
  | nil => intro j x hx; simp at hx
  | cons h1 _ ih =>
    intro j x hx
    cases j with
    | zero => simp at hx; subst hx; exact ⟨_, rfl, h1⟩
    | succ j => exact ih j x (by simpa using hx)
/-- Rows read are slices read. -/
theorem C_split {w : World} {A : Option Addr} {l : List (List Int)} (h : Kd.C kl w A l.length l) : ∃ T : List ST, Kd.C ks w A T.length T ∧ SRows w T l := by
  have key : ∀ (ad : Addr) (m : List (List Int)) (o : Nat), (∀ j x, m[j]? = some x → ∃ c, c.length = 1 ∧ kl.K w x c ∧ ∀ i u, c[i]? = some u → w.cell? (ad.add ((o + j) * 1 + i)) = some u) → ∃ T : List ST, (∀ j t, T[j]? = some t → w.cell? (ad.add (o + j)) = some (.slice t.1 t.2.1 t.2.2)) ∧ SRows w T m := by
    intro ad m
    induction m with
    | nil => intro o _; exact ⟨[], fun j t h => by simp at h, .nil⟩
    | cons x r ih =>
      intro o hm
      obtain ⟨c, hc1, ⟨A0, c0, rfl, hc0, hr⟩, hcell⟩ := hm 0 x rfl
      obtain ⟨T, hT, hS⟩ := ih (o + 1) (fun j y hy => by
        obtain ⟨c, h1, h2, h3⟩ := hm (j + 1) y (by simpa using hy)
        exact ⟨c, h1, h2, fun i u hu => by rw [show o + 1 + j = o + (j + 1) by omega]; exact h3 i u hu⟩)
      refine ⟨(A0, x.length, c0) :: T, fun j t ht => ?_, .cons ⟨rfl, hc0, hr⟩ hS⟩
      cases j with
      | zero =>
        simp at ht
        subst ht
        have := hcell 0 _ rfl
        simpa using this
      | succ j =>
        rw [show o + (j + 1) = o + 1 + j by omega]
        exact hT j t (by simpa using ht)
  obtain ⟨h1, h2, h3⟩ := h
  rcases Nat.eq_zero_or_pos l.length with h0 | h0
  · have : l = [] := List.length_eq_zero_iff.1 h0
    subst this
    exact ⟨[], ⟨rfl, h2, fun hp => absurd hp (Nat.lt_irrefl _)⟩, .nil⟩
  · obtain ⟨ad, e, hc⟩ := h3 h0
    obtain ⟨T, hT, hS⟩ := key ad l 0 (fun j x hx => by
      obtain ⟨c, a, b, d⟩ := hc j x hx
      exact ⟨c, a, b, fun i u hu => by rw [Nat.zero_add]; exact d i u hu⟩)
    refine ⟨T, ⟨rfl, by rw [hS.len]; exact h2, fun _ => ⟨ad, e, fun j t ht => ⟨[.slice t.1 t.2.1 t.2.2], rfl, rfl, fun i u hu => ?_⟩⟩⟩, hS⟩
    cases i with
    | zero =>
      simp at hu
      subst hu
      have := hT j t ht
      rw [Nat.zero_add] at this
      show w.cell? (ad.add (j * 1 + 0)) = _
      rw [Nat.mul_one, Nat.add_zero]
      exact this
    | succ i => simp at hu
/-- Slices read are rows read. -/
theorem C_join {w : World} {A : Option Addr} {T : List ST} {l : List (List Int)} (h : Kd.C ks w A T.length T) (hS : SRows w T l) : Kd.C kl w A l.length l := by
  obtain ⟨h1, h2, h3⟩ := h
  refine ⟨rfl, by rw [← hS.len]; exact h2, fun hp => ?_⟩
  obtain ⟨ad, e, hc⟩ := h3 (by rw [hS.len]; exact hp)
  refine ⟨ad, e, fun j x hx => ?_⟩
  obtain ⟨t, ht, hs⟩ := hS.get j x hx
  obtain ⟨c, a, b, d⟩ := hc j t ht
  have b2 : c = [.slice t.1 t.2.1 t.2.2] := b
  refine ⟨c, a, ⟨t.1, t.2.2, ?_, hs.cap, hs.row⟩, d⟩
  rw [b2, hs.len]
theorem ks_types : ∀ q, q ∈ 25 :: ks.E → q = 25 := by
  intro q hq
  simpa [ks, Kd.scalar] using hq
/-- Slices of two numbers, each in a block of its own. -/
inductive PRows (w : World) : List ST → List (Int × Int) → Prop
  | nil : PRows w [] []
  | cons {g : Nat} {p : Int × Int} {T : List ST} {ps : List (Int × Int)} : w.heap[g]? = some (.cells #[.int .i64 p.1, .int .i64 p.2] 3 (0, 0)) → PRows w T ps → PRows w ((some ⟨g, 0, none⟩, 2, 2) :: T) (p :: ps)
theorem PRows.move {w w1 : World} {T : List ST} {ps : List (Int × Int)} (h : PRows w T ps) (hm : ∀ (g : Nat) (cells : Array Value), w.heap[g]? = some (.cells cells 3 (0, 0)) → w1.heap[g]? = w.heap[g]?) : PRows w1 T ps := by
  induction h with
  | nil => exact .nil
  | cons h1 _ ih => exact .cons ((hm _ _ h1).trans h1) ih
theorem PRows.low {w w1 : World} {T : List ST} {ps : List (Int × Int)} (h : PRows w T ps) (hb : Below w.heap.size w w1) : PRows w1 T ps := h.move (fun g cells hg => hb.block g (blk_lt hg))
theorem PRows.snoc {w : World} {T : List ST} {ps : List (Int × Int)} (h : PRows w T ps) {g : Nat} {p : Int × Int} (hg : w.heap[g]? = some (.cells #[.int .i64 p.1, .int .i64 p.2] 3 (0, 0))) : PRows w (T ++ [(some ⟨g, 0, none⟩, 2, 2)]) (ps ++ [p]) := by
  induction h with
  | nil => exact .cons hg .nil
  | cons h1 _ ih => exact .cons h1 ih
theorem PRows.rows {w : World} {T : List ST} {ps : List (Int × Int)} (h : PRows w T ps) : SRows w T (ps.map fun p => [p.1, p.2]) := by
  induction h with
  | nil => exact .nil
  | @cons g p T ps h1 _ ih =>
    refine .cons ⟨rfl, Nat.le_refl _, ⟨rfl, (show (2 : Nat) ≤ 9223372036854775807 by decide), fun _ => ⟨⟨g, 0, none⟩, rfl, fun j q hj => ?_⟩⟩⟩ ih
    refine ⟨[.int .i64 q], rfl, rfl, fun i u hu => ?_⟩
    cases i with
    | succ i => simp at hu
    | zero =>
      simp at hu
      subst hu
      have hc := fun k => blk_cell h1 k
      have e : (⟨g, 0, none⟩ : Addr).add (j * 1 + 0) = ⟨g, j, none⟩ := by
        unfold Addr.add
        split
        · rename_i e; simp at e; subst e; rfl
        · simp
      show w.cell? ((⟨g, 0, none⟩ : Addr).add (j * 1 + 0)) = _
      rw [e, hc j]
      rcases (show j = 0 ∨ j = 1 ∨ 2 ≤ j by omega) with rfl | rfl | h2
      · simp at hj; subst hj; rfl
      · simp at hj; subst hj; rfl
      · rw [List.getElem?_eq_none (by simpa using h2)] at hj; cases hj
/-- Scopes and pairs in one row under way. -/
structure AlI (W0 wr : World) (s : Value) (T0 T1 : List ST) (ps : List (Int × Int)) : Prop where
  row : Kd.R ks 25 wr W0.heap.size (fun _ => True) s (T0 ++ T1)
  prs : PRows wr T1 ps
  bel : Below W0.heap.size W0 wr
theorem AlI.low {W0 wr w1 : World} {s : Value} {T0 T1 : List ST} {ps : List (Int × Int)} (h : AlI W0 wr s T0 T1 ps) (hb : Below wr.heap.size wr w1) : AlI W0 w1 s T0 T1 ps := ⟨Kd.R_below h.row hb, h.prs.low hb, below_step h.bel hb⟩
theorem AlI.alloc {W0 wr : World} {s : Value} {T0 T1 : List ST} {ps : List (Int × Int)} (h : AlI W0 wr s T0 T1 ps) (o : Obj) : AlI W0 (wr.alloc o) s T0 T1 ps := h.low ((Below.refl _ _).alloc (Nat.le_refl _) o)
theorem AlI.push {W0 W w1 : World} {s v1 : Value} {T0 T1 : List ST} {ps : List (Int × Int)} {g : Nat} {p : Int × Int} (h : AlI W0 W s T0 T1 ps) (hp : W.heap[g]? = some (.cells #[.int .i64 p.1, .int .i64 p.2] 3 (0, 0))) (ho : Kd.R ks 25 w1 W0.heap.size (fun _ => True) v1 ((T0 ++ T1) ++ [(some ⟨g, 0, none⟩, 2, 2)])) (hb : Below W0.heap.size W0 w1) (hg : W.grownBy w1 s.ownBlock) : AlI W0 w1 v1 T0 (T1 ++ [(some ⟨g, 0, none⟩, 2, 2)]) (ps ++ [p]) :=
  ⟨by rw [← List.append_assoc]; exact ho, (h.prs.snoc hp).move (fun k cells hk => hg.block k (blk_lt hk) (Kd.R_ne h.row hk (by decide))), hb⟩
theorem AlI.read {W0 wr : World} {A : Option Addr} {c : Nat} {T0 T1 : List ST} {ps : List (Int × Int)} {l : List (List Int)} (h : AlI W0 wr (.slice A (T0 ++ T1).length c) T0 T1 ps) (hl : SRows W0 T0 l) : Kd.C kl wr A (l ++ ps.map fun p => [p.1, p.2]).length (l ++ ps.map fun p => [p.1, p.2]) :=
  C_join (Kd.R_reads' h.row).2.2 ((hl.low h.bel).append h.prs.rows)
theorem ks_empty (w : World) (base : Nat) (hb : base ≤ w.heap.size) : Kd.R ks 25 (w.alloc (.cells #[] 25)) base (fun _ => True) (.slice (some ⟨w.heap.size, 0, none⟩) 0 0) [] := Kd.R_of_own (by
  have h := own_lit_of (enc := fun t : ST => Value.slice t.1 t.2.1 t.2.2) w base 25 [] hb (by decide)
  exact h) (fun _ _ => trivial)
theorem few_small {n : Int} {M : Nat} {l : List (List Int)} (hM : M ≤ 16) (h : rightF (fewN n (M : Int)) l = true) : ∃ N : Nat, fewN n (M : Int) = (N : Int) ∧ N ≤ M := by
  have hT := rightF_true h
  obtain ⟨N, hN⟩ := Int.eq_ofNat_of_zero_le hT.1
  refine ⟨N, hN, ?_⟩
  have h1 := hT.2.1
  unfold fewN at hN h1
  split at hN
  · omega
  · rename_i hc
    omega
end
section
set_option linter.unusedVariables false
set_option linter.unusedSimpArgs false
open Go.RowKit Go.Proofs.YtnnaakinchophaaW.PrintWords Go.Proofs.YtnnaakinchophaaW.PrintLast Go.Proofs.YtnnaakinchophaaW.PrintMore
theorem wp_bare {P : Program} (o : Oper) (a : Act) (W : World) (K : Act → World → Prop) (Q : Exit → Act → World → Prop) : Oper.wp P { o with guard := none } a W K Q = Oper.wp P o a W K Q := by
  cases o
  rfl
theorem asks_bare {P : Program} (o : Oper) (a : Act) (W : World) : Oper.asks P { o with guard := none } a W = Oper.asks P o a W := by
  cases o
  rfl
/-- A guarded operation that is wanted is walked as one without a guard. -/
theorem guard_ {P : Program} {ops : Array Oper} {rest : List Oper} {o : Oper} {a : Act} {Q : Exit → Act → World → Prop} {W : World} (hw : Region.wanted o (yielded ops a.tmps) = true) (h : wpList P ops Q ({ o with guard := none } :: rest) a W) : wpList P ops Q (o :: rest) a W := by
  unfold wpList at h ⊢
  have h0 : Region.wanted { o with guard := none } (yielded ops a.tmps) = true := rfl
  rw [if_pos h0, wp_bare, asks_bare] at h
  rw [if_pos hw]
  exact h
set_option maxHeartbeats 1000000 in
theorem among_calls (A : Option Addr) (c : Nat) (xs : List Int) (x : Int) (w : World) (hr : Kd.C (Kd.int .i64) w A xs.length xs) :
    Calls Try.prog 46 #[.slice A xs.length c, .int .i64 x] w fun e w' => e = .returned (.bool (xs.any fun y => y == x)) ∧ w' = w := by
  have hmax := Kd.C_max hr
  have HR := Aside0.mk hr
  clear hr
  go_enter Try.func46, Try.ntmps46
  go_wp2
  go_loopw [9] (fun s9 wr => ∃ k : Nat, k ≤ xs.length ∧ s9 = .int .i64 (k : Int) ∧ Aside0 (∀ j, j < k → (xs.getD j 0 == x) = false) ∧ wr = w) (fun s9 _ => (xs.length - (intOf s9).toNat))
  case atStart => exact ⟨0, by omega, rfl, ⟨fun j hj => absurd hj (by omega)⟩, rfl⟩
  case round =>
    obtain ⟨k, hk, rfl, HA, rfl⟩ := hrel
    by_cases hlt : k < xs.length
    · obtain ⟨ad, rfl, hx⟩ := kn_at HR.out k hlt
      obtain ⟨z, hz⟩ : ∃ z, xs.getD k 0 = z := ⟨_, rfl⟩
      have hmem := getD_mem 0 xs k hlt
      rw [hz] at hx hmem
      have HZ := Aside0.mk hz
      have HM := Aside0.mk hmem
      clear hz hmem
      cases hq : (z == x) with
      | true =>
        have HI : Aside0 ((xs.any fun y => y == x) = true) := ⟨List.any_eq_true.2 ⟨z, HM.out, hq⟩⟩
        go_wp2
        go_ret
        exact ⟨by rw [HI.out]; rfl, rfl⟩
      | false =>
        have HN : Aside0 (∀ j, j < k + 1 → (xs.getD j 0 == x) = false) := ⟨fun j hj => by
          rcases Nat.lt_or_ge j k with h | h
          · exact HA.out j h
          · obtain rfl : j = k := by omega
            rw [HZ.out]; exact hq⟩
        go_wp2
        go_roundw
        case rel => exact ⟨k + 1, by omega, by go_num, HN, trivial⟩
        case measure => simp [intOf]; omega
    · obtain rfl : k = xs.length := by omega
      have HI : Aside0 ((xs.any fun y => y == x) = false) := ⟨List.any_eq_false.2 (fun y hy => by
        obtain ⟨j, hj, rfl⟩ := List.getElem_of_mem hy
        have := HA.out j hj
        rw [List.getD_eq_getElem?_getD, List.getElem?_eq_getElem hj] at this
        simp at this
        simp [this])⟩
      go_wp2
      go_ret
      exact ⟨by rw [HI.out]; rfl, rfl⟩
/-- What free says: some order that begins so has no fill. -/
def freeF (n : Int) (l : List (List Int)) : Nat → List Int → Bool
  | 0, x => decide ((playedR n l x).2.1.length = 0)
  | m + 1, x => (List.range n.toNat).any fun v => !(x.any fun y => y == (v : Int)) && freeF n l m (x ++ [(v : Int)])
theorem int_read (x : Int) (cs : List Value) (W : World) (base : Nat) (h : (Kd.int .i64).K W x cs) : (Kd.int .i64).M W base (fun _ => False) x cs := h
set_option maxHeartbeats 4000000 in
set_option maxRecDepth 100000 in
theorem free_calls (N : Nat) (hN : N ≤ 16) (A : Option Addr) (c : Nat) (l : List (List Int)) (hc : l.length ≤ c) : ∀ (m : Nat) (x : List Int) (A2 : Option Addr) (c2 : Nat) (w : World), x.length + m = N → Kd.C kl w A l.length l → Kd.C (Kd.int .i64) w A2 x.length x →
    Calls Try.prog 35 #[.int .i64 (N : Int), .slice A l.length c, .slice A2 x.length c2] w fun e w' => e = .returned (.bool (freeF (N : Int) l m x)) ∧ Below w.heap.size w w' := by
  intro m
  induction m with
  | zero =>
    intro x A2 c2 w hx hr hx2
    have hxl : (((x.length : Nat) : Int) == (N : Int)) = true := by rw [beq_iff_eq]; omega
    have H1 := Aside0.mk (rfillall_calls N A c l A2 c2 x w hr hc hx2)
    clear hr hx2
    show Calls _ _ _ _ fun e w' => e = .returned (.bool (decide ((playedR (N : Int) l x).2.1.length = 0))) ∧ _
    obtain ⟨P, hP⟩ : ∃ P, playedR (N : Int) l x = P := ⟨_, rfl⟩
    rw [hP] at H1 ⊢
    clear hP hx
    obtain ⟨P1, P2, P3⟩ := P
    have hz : (((P2.length : Nat) : Int) == 0) = decide (P2.length = 0) := by
      rw [Bool.eq_iff_iff, beq_iff_eq, decide_eq_true_eq]
      omega
    have HZ := Aside0.mk hz
    clear hz
    go_enter Try.func35, Try.ntmps35
    go_wp2_with fail
    refine H1.out.mono ?_
    rintro e w1 ⟨v1, rfl, hR1, hB1⟩
    obtain ⟨a1, c1, rfl, -, -⟩ := Kd.R_reads hR1
    have HB := Aside0.mk hB1
    clear hR1 hB1 H1
    go_wp2
    go_ret
    exact ⟨by first | rfl | (rw [← HZ.out]; rfl), HB.out⟩
  | succ m ih =>
    intro x A2 c2 w hx hr hx2
    have hxl : (((x.length : Nat) : Int) == (N : Int)) = false := beq_eq_false_iff_ne.2 (by omega)
    have HR := Aside0.mk hr
    have HX := Aside0.mk hx2
    have HIH := Aside0.mk ih
    have hxN : x.length < N := by omega
    have HXl := Aside0.mk hx
    have hfr : freeF (N : Int) l (m + 1) x = ((List.range' 0 (N - 0)).any fun v => !(x.any fun y => y == (v : Int)) && freeF (N : Int) l m (x ++ [(v : Int)])) := by
      show ((List.range (N : Int).toNat).any _) = _
      rw [Int.toNat_natCast, List.range_eq_range']
      rfl
    rw [hfr]
    generalize hg : (fun v : Nat => !(x.any fun y => y == (v : Int)) && freeF (N : Int) l m (x ++ [(v : Int)])) = g at *
    have HG := Aside0.mk hg
    generalize hfin : (List.range' 0 (N - 0)).any g = fin at *
    have HF := Aside0.mk hfin
    clear hr hx2 ih hx hfr hg hfin
    go_enter Try.func35, Try.ntmps35
    go_wp2
    go_loopw [9] (fun s9 wr => ∃ k : Nat, k ≤ N ∧ s9 = .int .i64 (k : Int) ∧ Aside0 ((List.range' k (N - k)).any g = fin) ∧ Aside0 (Below w.heap.size w wr)) (fun s9 _ => (N - (intOf s9).toNat))
    case atStart => exact ⟨0, by omega, rfl, HF, ⟨Below.refl _ _⟩⟩
    case round =>
      obtain ⟨k, hk, rfl, HA, HB⟩ := hrel
      by_cases hlt : k < N
      · have hkd : decide (k < N) = true := decide_eq_true hlt
        have hx1 := Kd.C_below HX.out HB.out
        have hr1 := Kd.C_below HR.out HB.out
        have H2 := Aside0.mk (among_calls A2 c2 x (k : Int) wr hx1)
        have hstep : (g k || (List.range' (k + 1) (N - (k + 1))).any g) = fin := by
          rw [← HA.out, show N - k = (N - (k + 1)) + 1 by omega, List.range'_succ, List.any_cons]
        have hgk : g k = (!(x.any fun y => y == (k : Int)) && freeF (N : Int) l m (x ++ [(k : Int)])) := by rw [← HG.out]
        have HC := Aside0.mk (And.intro hr1 hx1)
        cases hm : (x.any fun y => y == (k : Int)) with
        | true =>
          rw [hm] at H2 hgk
          have hT : Aside0 ((List.range' (k + 1) (N - (k + 1))).any g = fin) := ⟨by rw [← hstep, hgk]; rfl⟩
          clear hx1 hr1 hstep hgk hm
          go_wp2_with (go_at_call 46; refine H2.out.mono ?_; rintro e w' ⟨rfl, rfl⟩)
          go_roundw
          case rel => exact ⟨k + 1, by omega, by go_num, hT, HB⟩
          case measure => simp [intOf]; omega
        | false =>
          rw [hm] at H2 hgk
          have hgk2 : Aside0 (g k = freeF (N : Int) l m (x ++ [(k : Int)])) := ⟨by rw [hgk]; rfl⟩
          have HST := Aside0.mk hstep
          clear hr1 hstep hgk hm
          have hbA : Below w.heap.size w (wr.alloc (.cells #[] 3)) := HB.out.alloc HB.out.size _
          have hx3 : Kd.C (Kd.int .i64) (wr.alloc (.cells #[] 3)) A2 x.length x := Kd.C_below hx1 ((Below.refl _ _).alloc (Nat.le_refl _) _)
          have hI0 : Kd.R (Kd.int .i64) 3 (wr.alloc (.cells #[] 3)) w.heap.size (fun _ => True) (.slice (some ⟨wr.heap.size, 0, none⟩) 0 0) [] := Kd.R_of_own (by
            have h := own_lit wr w.heap.size 3 .i64 [] HB.out.size (by decide)
            exact h) (fun _ _ => trivial)
          clear hx1
          have hxa : x.length ≤ 16 := by omega
          go_wp2_with (first | (go_at_call 46; refine H2.out.mono ?_; rintro e w' ⟨rfl, rfl⟩) | (at_builtin; refine guard_ (by rfl) ?_; refine Kd.R_append_rows (Kd.int .i64) (w0 := w) w.heap.size rfl (.tmp 36) (.tmp 37) 25 3 (.int .i64 0) 8 rfl Try.underlying25 info3 rfl (by decide) (by omega) _ [] x A2 _ c2 (fun _ => True) (fun _ => False) rfl rfl ?aO hx3 (fun _ _ h => h) (fun _ hk => hk.elim) (fun _ _ => trivial) ?aB ?aS ?aL ?_; (case aO => exact hI0); (case aB => exact hbA); (case aS => exact hbA.size); (case aL => simp; omega); intro v7 w7 ho7 hb7 hg7 hat7; obtain ⟨A7, c7, rfl⟩ := Kd.R_slice ho7) | (at_builtin; refine guard_ (by rfl) ?_; refine Kd.R_append (Kd.int .i64) (w0 := w) w.heap.size rfl (.tmp 38) (.tmp 40) 25 3 (.int .i64 0) 8 rfl Try.underlying25 info3 rfl (by decide) (by omega) _ ([] ++ x) (k : Int) [.int .i64 (k : Int)] (fun _ => True) (fun _ => False) rfl rfl ?aP (fun _ hk => hk.elim) ?aF ?aO ?aB ?aS ?aL ?_; (case aP => exact rfl); (case aF => exact (fun _ _ => trivial)); (case aO => exact ho7); (case aB => exact hb7); (case aS => exact hb7.size); (case aL => simp; omega); intro v8 w8 ho8 hb8 hg8 hat8))
          obtain ⟨A8, c8, rfl, hc8, hC8⟩ := Kd.R_reads ho8
          have HB8 := Aside0.mk hb8
          have H9 := Aside0.mk (HIH.out (x ++ [(k : Int)]) A8 c8 w8 (by have := HXl.out; rw [List.length_append]; simp; omega) (Kd.C_below HR.out hb8) hC8)
          clear ho7 hb7 hg7 hat7 ho8 hb8 hg8 hat8 hI0 hbA hx3 H2 hC8
          refine H9.out.mono ?_
          rintro e w9 ⟨rfl, hb9⟩
          have HB9 := Aside0.mk (below_step HB8.out hb9)
          clear hb9 H9 HB8
          cases hb : freeF (N : Int) l m (x ++ [(k : Int)]) with
          | true =>
            have hfin : Aside0 (true = fin) := ⟨by rw [← HST.out, hgk2.out, hb]; rfl⟩
            go_wp2
            go_ret
            exact ⟨by rw [← hfin.out]; rfl, HB9.out⟩
          | false =>
            have hT : Aside0 ((List.range' (k + 1) (N - (k + 1))).any g = fin) := ⟨by rw [← HST.out, hgk2.out, hb]; rfl⟩
            go_wp2
            go_roundw
            case rel => exact ⟨k + 1, by omega, by go_num, hT, HB9⟩
            case measure => simp [intOf]; omega
      · obtain rfl : k = N := by omega
        have hfin : Aside0 (false = fin) := ⟨by rw [← HA.out, Nat.sub_self]; rfl⟩
        go_wp2
        go_ret
        exact ⟨by rw [← hfin.out]; rfl, HB.out⟩
end
section
set_option linter.unusedVariables false
set_option linter.unusedSimpArgs false
open Go.RowKit Go.Proofs.YtnnaakinchophaaW.PrintWords Go.Proofs.YtnnaakinchophaaW.PrintLast Go.Proofs.YtnnaakinchophaaW.PrintMore
/-- A slice value that reads as a row. -/
structure Rd (w : World) (v : Value) (x : List Int) : Prop where
  ex : ∃ A c, v = .slice A x.length c ∧ x.length ≤ c ∧ Kd.C (Kd.int .i64) w A x.length x
theorem Rd.low {w w1 : World} {v : Value} {x : List Int} (h : Rd w v x) (hb : Below w.heap.size w w1) : Rd w1 v x := by
  obtain ⟨A, c, h1, h2, h3⟩ := h.ex
  exact ⟨A, c, h1, h2, Kd.C_below h3 hb⟩
theorem Rd.nil (w : World) : Rd w (.slice none 0 0) [] := ⟨none, 0, rfl, Nat.le_refl _, ⟨rfl, by decide, fun h => absurd h (Nat.lt_irrefl _)⟩⟩
set_option maxHeartbeats 4000000 in
set_option maxRecDepth 100000 in
theorem least_calls (N : Nat) (hN : N ≤ 16) (A : Option Addr) (c : Nat) (l : List (List Int)) (hc : l.length ≤ c) : ∀ (m : Nat) (x : List Int) (A2 : Option Addr) (c2 : Nat) (w : World), x.length + m = N → Kd.C kl w A l.length l → Kd.C (Kd.int .i64) w A2 x.length x → x.length ≤ c2 →
    Calls Try.prog 20 #[.int .i64 (N : Int), .slice A l.length c, .slice A2 x.length c2] w fun e w' => ∃ v0, e = .returned (.tuple #[v0, .int .i64 (leastF (N : Int) l m x).2]) ∧ Rd w' v0 (leastF (N : Int) l m x).1 ∧ Below w.heap.size w w' := by
  intro m
  induction m with
  | zero =>
    intro x A2 c2 w hx hr hx2 hc2
    have hxl : (((x.length : Nat) : Int) == (N : Int)) = true := by rw [beq_iff_eq]; omega
    have H1 := Aside0.mk (rwidth_calls N A c l A2 c2 x w hr hc hx2)
    have HX := Aside0.mk hx2
    clear hr hx2
    show Calls _ _ _ _ fun e w' => ∃ v0, e = .returned (.tuple #[v0, .int .i64 (playedR (N : Int) l x).1]) ∧ Rd w' v0 x ∧ _
    obtain ⟨P, hP⟩ : ∃ P, playedR (N : Int) l x = P := ⟨_, rfl⟩
    rw [hP] at H1 ⊢
    clear hP hx
    obtain ⟨P1, P2, P3⟩ := P
    go_enter Try.func20, Try.ntmps20
    go_wp2_with fail
    refine H1.out.mono ?_
    rintro e w1 ⟨rfl, hB1⟩
    have HB := Aside0.mk hB1
    clear hB1 H1
    go_wp2
    go_ret2
    exact ⟨_, rfl, ⟨A2, c2, rfl, hc2, Kd.C_below HX.out HB.out⟩, HB.out⟩
  | succ m ih =>
    intro x A2 c2 w hx hr hx2 hc2
    have hxl : (((x.length : Nat) : Int) == (N : Int)) = false := beq_eq_false_iff_ne.2 (by omega)
    have HR := Aside0.mk hr
    have HX := Aside0.mk hx2
    have HIH := Aside0.mk ih
    have hxN : x.length < N := by omega
    have HXl := Aside0.mk hx
    have hfr : leastF (N : Int) l (m + 1) x = (List.range' 0 (N - 0)).foldl (lsS (leastF (N : Int) l m) x) ([], -1) := by
      show (List.range (N : Int).toNat).foldl _ _ = _
      rw [Int.toNat_natCast, List.range_eq_range']
      rfl
    rw [hfr]
    generalize hg : leastF (N : Int) l m = g at *
    have HG := Aside0.mk hg
    generalize hfin : (List.range' 0 (N - 0)).foldl (lsS g x) ([], -1) = fin at *
    have HF := Aside0.mk hfin
    obtain ⟨f1, f2⟩ := fin
    clear hr hx2 ih hx hfr hg hfin
    go_enter Try.func20, Try.ntmps20
    go_wp2
    go_loopw [10, 11, 12] (fun s10 s11 s12 wr => ∃ k : Nat, ∃ best : List Int, ∃ lw : Int, k ≤ N ∧ s12 = .int .i64 (k : Int) ∧ s11 = .int .i64 lw ∧ Aside0 ((List.range' k (N - k)).foldl (lsS g x) (best, lw) = (f1, f2)) ∧ Aside0 (Rd wr s10 best) ∧ Aside0 (Below w.heap.size w wr)) (fun _ _ s12 _ => (N - (intOf s12).toNat))
    case atStart => exact ⟨0, [], -1, by omega, rfl, rfl, HF, ⟨Rd.nil _⟩, ⟨Below.refl _ _⟩⟩
    case round =>
      obtain ⟨k, best, lw, hk, rfl, rfl, HA, HRd, HB⟩ := hrel
      by_cases hlt : k < N
      · have hkd : decide (k < N) = true := decide_eq_true hlt
        have hx1 := Kd.C_below HX.out HB.out
        have H2 := Aside0.mk (among_calls A2 c2 x (k : Int) wr hx1)
        have hstep : (List.range' (k + 1) (N - (k + 1))).foldl (lsS g x) (lsS g x (best, lw) k) = (f1, f2) := by
          rw [← HA.out, show N - k = (N - (k + 1)) + 1 by omega, List.range'_succ, List.foldl_cons]
        cases hm : (x.any fun y => y == (k : Int)) with
        | true =>
          rw [hm] at H2
          have hT : Aside0 ((List.range' (k + 1) (N - (k + 1))).foldl (lsS g x) (best, lw) = (f1, f2)) := ⟨by
            rw [← hstep]
            unfold lsS
            rw [if_pos hm]⟩
          clear hx1 hstep hm
          go_wp2_with (go_at_call 46; refine H2.out.mono ?_; rintro e w' ⟨rfl, rfl⟩)
          go_roundw
          case rel => exact ⟨k + 1, _, _, by omega, by go_num, rfl, hT, HRd, HB⟩
          case measure => simp [intOf]; omega
        | false =>
          rw [hm] at H2
          have hst2 : Aside0 ((List.range' (k + 1) (N - (k + 1))).foldl (lsS g x) (if lw < 0 ∨ (g (x ++ [(k : Int)])).2 < lw then g (x ++ [(k : Int)]) else (best, lw)) = (f1, f2)) := ⟨by
            have e : lsS g x (best, lw) k = if lw < 0 ∨ (g (x ++ [(k : Int)])).2 < lw then g (x ++ [(k : Int)]) else (best, lw) := by
              unfold lsS
              rw [if_neg (by rw [hm]; simp)]
            rw [← hstep, e]⟩
          clear hstep hm
          have hbA : Below w.heap.size w (wr.alloc (.cells #[] 3)) := HB.out.alloc HB.out.size _
          have hx3 : Kd.C (Kd.int .i64) (wr.alloc (.cells #[] 3)) A2 x.length x := Kd.C_below hx1 ((Below.refl _ _).alloc (Nat.le_refl _) _)
          have hI0 : Kd.R (Kd.int .i64) 3 (wr.alloc (.cells #[] 3)) wr.heap.size (fun _ => True) (.slice (some ⟨wr.heap.size, 0, none⟩) 0 0) [] := Kd.R_of_own (by
            have h := own_lit wr wr.heap.size 3 .i64 [] (Nat.le_refl _) (by decide)
            exact h) (fun _ _ => trivial)
          have hbR : Below wr.heap.size wr (wr.alloc (.cells #[] 3)) := (Below.refl _ _).alloc (Nat.le_refl _) _
          have hxa : x.length ≤ 16 := by omega
          clear hx1 hbA
          go_wp2_with (first | (go_at_call 46; refine H2.out.mono ?_; rintro e w' ⟨rfl, rfl⟩) | (at_builtin; refine Kd.R_append_rows (Kd.int .i64) (w0 := w') w'.heap.size rfl (.tmp 39) (.tmp 40) 25 3 (.int .i64 0) 8 rfl Try.underlying25 info3 rfl (by decide) (by omega) _ [] x A2 _ c2 (fun _ => True) (fun _ => False) rfl rfl ?aO hx3 (fun _ _ h => h) (fun _ hk => hk.elim) (fun _ _ => trivial) ?aB ?aS ?aL ?_; (case aO => exact hI0); (case aB => exact hbR); (case aS => exact hbR.size); (case aL => simp; omega); intro v7 w7 ho7 hb7 hg7 hat7; obtain ⟨A7, c7, rfl⟩ := Kd.R_slice ho7) | (at_builtin; refine Kd.R_append (Kd.int .i64) (w0 := w') w'.heap.size rfl (.tmp 41) (.tmp 43) 25 3 (.int .i64 0) 8 rfl Try.underlying25 info3 rfl (by decide) (by omega) _ ([] ++ x) (k : Int) [.int .i64 (k : Int)] (fun _ => True) (fun _ => False) rfl rfl ?aP (fun _ hk => hk.elim) ?aF ?aO ?aB ?aS ?aL ?_; (case aP => exact rfl); (case aF => exact (fun _ _ => trivial)); (case aO => exact ho7); (case aB => exact hb7); (case aS => exact hb7.size); (case aL => simp; omega); intro v8 w8 ho8 hb8 hg8 hat8))
          obtain ⟨A8, c8, rfl, hc8, hC8⟩ := Kd.R_reads ho8
          have HRd8 := Aside0.mk (HRd.out.low hb8)
          have HB8 := Aside0.mk (below_step HB.out hb8)
          have H9 := HIH.out (x ++ [(k : Int)]) A8 c8 w8 (by have := HXl.out; rw [List.length_append]; simp; omega) (Kd.C_below HR.out HB8.out) hC8 hc8
          have H9A := Aside0.mk H9
          generalize g (x ++ [(k : Int)]) = p at *
          obtain ⟨p1, p2⟩ := p
          clear ho7 hb7 hg7 hat7 ho8 hb8 hg8 hat8 hI0 hbR hx3 H2 hC8 H9
          refine H9A.out.mono ?_
          rintro e w9 ⟨v9, rfl, hR9, hb9⟩
          have HB9 := Aside0.mk (below_step HB8.out hb9)
          have HRd9 := Aside0.mk (HRd8.out.low hb9)
          have HR9 := Aside0.mk hR9
          clear hb9 H9A HB8 hR9 HRd8
          by_cases h1 : lw < 0
          · have h1d : decide (lw < 0) = true := decide_eq_true h1
            have hT : Aside0 ((List.range' (k + 1) (N - (k + 1))).foldl (lsS g x) (p1, p2) = (f1, f2)) := ⟨by rw [← hst2.out, if_pos (Or.inl h1)]⟩
            go_wp2
            go_roundw
            case rel => exact ⟨k + 1, _, _, by omega, by go_num, rfl, hT, HR9, HB9⟩
            case measure => simp [intOf]; omega
          · have h1d : decide (lw < 0) = false := decide_eq_false h1
            by_cases h2 : p2 < lw
            · have h2d : decide (p2 < lw) = true := decide_eq_true h2
              have hT : Aside0 ((List.range' (k + 1) (N - (k + 1))).foldl (lsS g x) (p1, p2) = (f1, f2)) := ⟨by rw [← hst2.out, if_pos (Or.inr h2)]⟩
              go_wp2
              go_roundw
              case rel => exact ⟨k + 1, _, _, by omega, by go_num, rfl, hT, HR9, HB9⟩
              case measure => simp [intOf]; omega
            · have h2d : decide (p2 < lw) = false := decide_eq_false h2
              have hT : Aside0 ((List.range' (k + 1) (N - (k + 1))).foldl (lsS g x) (best, lw) = (f1, f2)) := ⟨by
                rw [← hst2.out, if_neg]
                rintro (h | h)
                · exact h1 h
                · exact h2 h⟩
              go_wp2
              go_roundw
              case rel => exact ⟨k + 1, _, _, by omega, by go_num, rfl, hT, HRd9, HB9⟩
              case measure => simp [intOf]; omega
      · obtain rfl : k = N := by omega
        have hfin : Aside0 ((best, lw) = (f1, f2)) := ⟨by rw [← HA.out, Nat.sub_self]; rfl⟩
        obtain ⟨h1, h2⟩ := Prod.mk.inj hfin.out
        subst h1; subst h2
        go_wp2
        go_ret2
        exact ⟨_, rfl, HRd.out, HB.out⟩
end
end Go.Proofs.Ytnnaakinchophaa.Ord
