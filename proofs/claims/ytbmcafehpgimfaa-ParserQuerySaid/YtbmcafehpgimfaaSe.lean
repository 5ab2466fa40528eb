/- The program's readers of expressions: the loops and the levels. -/
import Derived.Test.YtbmcafehpgimfaaSo
namespace Go.Proofs.Ytbmcafehpgimfaa.Ps
set_option linter.unusedVariables false
set_option linter.unusedSimpArgs false
open Go Go.RowKit Px
open Lx (Tok)

/-- The text's numbers are small. -/
def Nums (l : List Tok) : Prop := ∀ i, 0 ≤ (tk l i).n ∧ (tk l i).n ≤ 2147483647
structure AllAt (l : List Tok) (i : Nat) : Prop where
  expr : Sim l eV (fun _ k _ => Ak k false 24 [V.one (X.ptr 0 0)] (rds l i)) (pw l .expr i)
  level : ∀ n, n ≤ 6 → Sim l eV (fun _ k _ => Ak k false 56 [V.one (X.ptr 0 0), V.one (X.d (D.int IntKind.i64 (Int.ofNat n)))] (rds l i)) (pw l (.level n) i)
  unary : Sim l eV (fun _ k _ => Ak k false 81 [V.one (X.ptr 0 0)] (rds l i)) (pw l .unary i)
  atom : Sim l eV (fun _ k _ => Ak k false 94 [V.one (X.ptr 0 0)] (rds l i)) (pw l .atom i)
  list : ∀ e, Sim l esV (fun _ k _ => Ak k false 101 [V.one (X.ptr 0 0), V.one (X.d (D.str (bx e)))] (rds l i)) (pw l (.list e) i)
abbrev After (l : List Tok) (i : Nat) : Prop := ∀ j, i < j → j < l.length → AllAt l j
section
variable {l : List Tok}
/-! ### Numbers, shares, bounds -/
theorem share_ok (hl : Few l) (i : Nat) (hi : i < l.length) : Sim l osV (fun _ k _ => Ak k false 55 [V.one (X.ptr 0 0)] (rds l i)) (pw l .share i) := by
  have g := hl.good
  rw [pw_eq g _ i hi]
  refine fun hr => call55 _ _ ((?_ : Sim l osV (fun _ k n => e55 (Ak k) n (toks l) (Int.ofNat i)) (run (pw l) l (body .share) i)) hr)
  clear hr
  simp only [e55_eq]
  refine S_kind hl.len hi 3 (fun _ _ _ _ _ _ => rfl) fun h => ?_
  have h1 := nxk g hi h (by decide)
  refine S_want hl.len h1 wSl (fun _ _ _ _ _ _ => rfl) fun h2 => ?_
  have h3 := nx g h1 h2
  refine S_kind hl.len h3 3 (fun _ _ _ _ _ _ => rfl) fun h4 => ?_
  exact Sim.ret fun _ _ _ => rfl
theorem bound_ok (hl : Few l) (hn : Nums l) (i : Nat) (hi : i < l.length) : Sim l nV (fun _ k _ => Ak k false 102 [V.one (X.ptr 0 0)] (rds l i)) (pw l .bound i) := by
  have g := hl.good
  rw [pw_eq g _ i hi]
  refine fun hr => call102 _ _ ((?_ : Sim l nV (fun _ k n => e102 (Ak k) n (toks l) (Int.ofNat i)) (run (pw l) l (body .bound) i)) hr)
  clear hr
  simp only [e102_eq]
  refine S_take hl.len hi wMi (fun h => Sim.yes rfl ?_) (fun h => Sim.no rfl ?_)
  · have h1 := nx g hi h
    refine S_kind hl.len h1 3 (fun _ _ _ _ _ _ => rfl) fun h2 => Sim.ret fun _ _ _ => ?_
    have := hn (i + 1)
    rw [wrap_in _ (by omega) (by omega)]
    show some (Out.mk true (V.one (X.d (D.int IntKind.i64 (0 - (tk l (i + 1)).n)))) D.junk _ 0) = some (Out.mk true (V.one (X.d (D.int IntKind.i64 (-(tk l (i + 1)).n)))) D.junk _ 0)
    rw [Int.zero_sub]
  · simp only [q102_0_eq]
    exact S_kind hl.len hi 3 (fun _ _ _ _ _ _ => rfl) fun h2 => Sim.ret fun _ _ _ => rfl

/-! ### Lists -/
theorem rest_ok (hl : Few l) (e : List UInt8) : ∀ (d i : Nat), i < l.length → l.length - i ≤ d → After l i → ∀ (acc : List E) z z', acc.length ≤ i →
    Sim l esV (fun m k n => l101_0 m (Ak k) n z z' (bx e) (E.rows acc) (toks l) (Int.ofNat i)) (run (pw l) l (.call (.rest e) fun r => .ret (acc ++ r)) i)
  | 0, i, hi, h, _, _, _, _, _ => by omega
  | d + 1, i, hi, h, H, acc, z, z', ha => by
    have g := hl.good
    rw [run_open g _ _ i hi]
    refine Sim.step ?_
    simp only [l101_0_eq]
    refine S_take hl.len hi wCm (fun h => Sim.yes rfl ?_) (fun h => Sim.no rfl ?_)
    · have h1 := nx g hi h
      simp only [q101_1_eq]
      refine Eq.subst (motive := fun r => Sim l esV _ r) (run_call _ _ _).symm ?_
      refine S_E (H _ (by omega) h1).expr (fun _ _ _ _ _ _ => rfl) fun a j hj => ?_
      have hf := pw_ok g h1 hj
      refine Sim.yes (by rw [E.rows_len]; exact roomy _ _ (by have := hl.len; omega) (by omega)) ?_
      rw [← E.rows_app]
      have := rest_ok hl e d j hf.2 (by omega) (fun j' h1 h2 => H j' (by omega) h2) (acc ++ [a]) z z' (by rw [List.length_append, List.length_singleton]; omega)
      simp only [List.append_assoc, List.singleton_append] at this
      exact this
    · simp only [q101_2_eq]
      refine S_want hl.len hi e (fun _ _ _ _ _ _ => rfl) fun h2 => Sim.ret fun _ _ _ => ?_
      rw [List.append_nil]
      rfl
theorem list_ok (hl : Few l) (e : List UInt8) (i : Nat) (hi : i < l.length) (H : After l i) (he : Sim l eV (fun _ k _ => Ak k false 24 [V.one (X.ptr 0 0)] (rds l i)) (pw l .expr i)) (hpos : ∀ a j, pw l .expr i = .ok a j → i < j) :
    Sim l esV (fun _ k _ => Ak k false 101 [V.one (X.ptr 0 0), V.one (X.d (D.str (bx e)))] (rds l i)) (pw l (.list e) i) := by
  have g := hl.good
  rw [pw_eq g _ i hi]
  refine fun hr => call101 _ _ _ ((?_ : Sim l esV (fun _ k n => e101 (Ak k) n (bx e) (toks l) (Int.ofNat i)) (run (pw l) l (body (.list e)) i)) hr)
  clear hr
  simp only [e101_eq]
  refine S_take hl.len hi e (fun h => Sim.yes rfl (Sim.ret fun _ _ _ => ?_)) (fun h => Sim.no rfl ?_)
  · unfold esV
    rw [E.rows_nil]
  · simp only [q101_0_eq]
    refine Eq.subst (motive := fun r => Sim l esV _ r) (run_call _ _ _).symm ?_
    refine S_E he (fun _ _ _ _ _ _ => rfl) fun a j hj => ?_
    have hf := pw_ok g hi hj
    have hp := hpos a j hj
    rw [← E.rows_one]
    exact Sim.diag (rest_ok hl e _ j hf.2 (Nat.le_refl _) (fun j' h1 h2 => H j' (by omega) h2) [a] _ _ (by simp only [List.length_cons, List.length_nil]; omega))

/-! ### Operators -/
theorem loop_ok (hl : Few l) (n : Nat) (hn : n ≤ 5) : ∀ (d i : Nat), i < l.length → l.length - i ≤ d → After l i → ∀ (left : E) z z' x3 x4 s5 x6 x7,
    Sim l eV (fun m k _ => l56_0 m (Ak k) z z' (Int.ofNat n) (toks l) (Int.ofNat i) x3 x4 s5 x6 x7 left.k left.n (bx left.name) (strs left.names) (ints left.odds) (E.rows left.kids) left.line left.col) (run (pw l) l (.call (.loop n left) .ret) i) ∧
    (left.names = [] → left.odds = [] → Sim l eV (fun m k _ => l56_0_v1 m (Ak k) z z' (Int.ofNat n) (toks l) (Int.ofNat i) x3 x4 s5 x6 x7 left.k left.n (bx left.name) (E.rows left.kids) left.line left.col) (run (pw l) l (.call (.loop n left) .ret) i))
  | 0, i, hi, h, _, _, _, _, _, _, _, _, _ => by omega
  | d + 1, i, hi, h, H, left, z, z', x3, x4, s5, x6, x7 => by
    have g := hl.good
    have hop := C_oper hi n hn
    have e0 : run (pw l) l (.call (.loop n left) .ret) i = if (opsOf n).any (fun s => isT s (tk l i)) then
        run (pw l) l (.call (.level (if n = 3 then 3 else n + 1)) fun r => if n = 2 ∨ n = 3 then .ret (E.mk 7 0 (tk l i).text [] [] [left, r] (tk l i).line (tk l i).col) else .call (.loop n (E.mk 7 0 (tk l i).text [] [] [left, r] (tk l i).line (tk l i).col)) .ret) (i + 1) else .ok left i := by
      have : run (pw l) l (.call (.loop n left) .ret) i = run (pw l) l (body (.loop n left)) i := by
        rw [run_call, pw_eq g _ i hi]
        cases run (pw l) l (body (.loop n left)) i <;> rfl
      rw [this]
      exact run_any _ _ i (opsOf n)
    have go : ∀ {F : Nat → Nat → Nat → Option Out}, (opsOf n).any (fun s => isT s (tk l i)) = true →
        (i + 1 < l.length → Sim l eV F (thenR (pw l (.level (if n = 3 then 3 else n + 1)) (i + 1)) fun r j => run (pw l) l (if n = 2 ∨ n = 3 then .ret (E.mk 7 0 (tk l i).text [] [] [left, r] (tk l i).line (tk l i).col) else .call (.loop n (E.mk 7 0 (tk l i).text [] [] [left, r] (tk l i).line (tk l i).col)) .ret) j)) →
        Sim l eV F (run (pw l) l (.call (.loop n left) .ret) i) := fun {F} ha hf => by
      rw [e0, if_pos ha, run_call]
      obtain ⟨s, _, hs⟩ := List.any_eq_true.1 ha
      exact hf (nx g hi hs)
    have stop : (opsOf n).any (fun s => isT s (tk l i)) = false → ∀ {F : Nat → Nat → Nat → Option Out}, (∀ m k n', F m k n' = some ⟨true, eV left, D.junk, [rd l i], 0⟩) → Sim l eV F (run (pw l) l (.call (.loop n left) .ret) i) := fun ha {F} hf => by
      rw [e0, ha]
      exact fun _ => Ev.of hf
    have ne : (opsOf n).any (fun s => isT s (tk l i)) = true → beqL (bx (tk l i).text).data.toList (ByteArray.mk #[]).data.toList = false := fun ha => by
      obtain ⟨s, hs, ht⟩ := List.any_eq_true.1 ha
      rw [show (ByteArray.mk #[]).data.toList = [] from rfl, bx_data, beqL_eq]
      unfold isT at ht
      rw [Bool.and_eq_true, beq_iff_eq] at ht
      rw [ht.2]
      have : s ≠ [] := fun e => by
        subst e
        match n, hn with
        | 0, _ | 1, _ | 2, _ | 3, _ | 4, _ | 5, _ => simp [opsOf] at hs
      simpa using this
    have rows2 : ∀ r : E, [[D.int IntKind.i64 left.k, D.int IntKind.i64 left.n, D.str (bx left.name), D.list 1 (strs left.names), D.list 1 (ints left.odds), D.list 8 (E.rows left.kids), D.int IntKind.i64 left.line, D.int IntKind.i64 left.col],
        [D.int IntKind.i64 r.k, D.int IntKind.i64 r.n, D.str (bx r.name), D.list 1 (strs r.names), D.list 1 (ints r.odds), D.list 8 (E.rows r.kids), D.int IntKind.i64 r.line, D.int IntKind.i64 r.col]] = E.rows [left, r] := fun r => by rw [E.rows_cons, E.rows_cons, E.rows_nil]
    have b3 : (Int.ofNat n == 3) = decide (n = 3) := by
      rw [Bool.eq_iff_iff, beq_iff_eq, decide_eq_true_eq]
      simp only [Int.ofNat_eq_natCast]
      omega
    have b2 : (Int.ofNat n == 2) = decide (n = 2) := by
      rw [Bool.eq_iff_iff, beq_iff_eq, decide_eq_true_eq]
      simp only [Int.ofNat_eq_natCast]
      omega
    have fin : ∀ r j, i + 1 ≤ j → j < l.length → ∀ z z' x3 x4 s5 x6 x7 {F : Nat → Nat → Nat → Option Out},
        (∀ m k n', F m k n' = bif Int.ofNat n == 2 then some (Out.mk true (eV (E.mk 7 0 (tk l i).text [] [] [left, r] (tk l i).line (tk l i).col)) D.junk [rd l j] 0) else bif Int.ofNat n == 3 then some (Out.mk true (eV (E.mk 7 0 (tk l i).text [] [] [left, r] (tk l i).line (tk l i).col)) D.junk [rd l j] 0) else
          l56_0_v1 m (Ak k) z z' (Int.ofNat n) (toks l) (Int.ofNat j) x3 x4 s5 x6 x7 7 0 (bx (tk l i).text) (E.rows [left, r]) (tk l i).line (tk l i).col) →
        Sim l eV F (run (pw l) l (if n = 2 ∨ n = 3 then .ret (E.mk 7 0 (tk l i).text [] [] [left, r] (tk l i).line (tk l i).col) else .call (.loop n (E.mk 7 0 (tk l i).text [] [] [left, r] (tk l i).line (tk l i).col)) .ret) j) := fun r j hj hjl z z' x3 x4 s5 x6 x7 F hF => by
      refine Sim.eq ?_ hF
      rw [b2, b3]
      by_cases h2 : n = 2
      · rw [decide_eq_true h2, if_pos (.inl h2)]
        exact Sim.ret fun _ _ _ => rfl
      · rw [decide_eq_false h2]
        by_cases h3 : n = 3
        · rw [decide_eq_true h3, if_pos (.inr h3)]
          exact Sim.ret fun _ _ _ => rfl
        · rw [decide_eq_false h3, if_neg (fun q => q.elim h2 h3)]
          exact (loop_ok hl n hn d j hjl (by omega) (fun j' h1 h2 => H j' (by omega) h2) (E.mk 7 0 (tk l i).text [] [] [left, r] (tk l i).line (tk l i).col) z z' x3 x4 s5 x6 x7).2 rfl rfl
    refine ⟨?_, fun hns hos => ?_⟩
    · refine Sim.step ?_
      simp only [l56_0_eq]
      refine fun hr => v_a5ISIII_L5I (C_token hi) (v_oS_L5I hop ?_)
      cases ha : (opsOf n).any (fun s => isT s (tk l i)) with
      | false =>
        have e1 : opAt n (tk l i) = [] := by unfold opAt; rw [ha]; rfl
        refine (stop ha fun m k n' => ?_) hr
        rw [e1]
        rfl
      | true =>
        have e1 : opAt n (tk l i) = (tk l i).text := by unfold opAt; rw [ha]; rfl
        rw [e1]
        refine (go ha fun h1 => ?_) hr
        refine Sim.no (ne ha) ?_
        simp only [q56_1_eq]
        refine S_begin 7 (tk l i) ?_
        rw [up hl.len hi]
        by_cases h3 : n = 3
        · refine Sim.yes (by rw [b3, decide_eq_true h3]) ?_
          simp only [q56_2_eq]
          rw [if_pos h3]
          refine S_E ((H _ (by omega) h1).level 3 (by omega)) (fun _ _ _ _ _ _ => rfl) fun r j hj => ?_
          have hf := pw_ok g h1 hj
          refine fin r j hf.1 hf.2 z z' x3 x4 s5 x6 x7 fun m k n' => ?_
          have := rows2 r
          skip
          unfold eV
          simp only [E.k, E.n, E.name, E.names, E.odds, E.kids, E.line, E.col, q56_3_eq, ← this]
          rfl
        · refine Sim.no (by rw [b3, decide_eq_false h3]) ?_
          simp only [q56_2_eq]
          rw [if_neg h3, wrap_up n (by omega)]
          refine S_E ((H _ (by omega) h1).level (n + 1) (by omega)) (fun _ _ _ _ _ _ => rfl) fun r j hj => ?_
          have hf := pw_ok g h1 hj
          refine fin r j hf.1 hf.2 z z' x3 x4 s5 x6 x7 fun m k n' => ?_
          have := rows2 r
          skip
          unfold eV
          simp only [E.k, E.n, E.name, E.names, E.odds, E.kids, E.line, E.col, q56_3_eq, ← this]
          rfl
    · refine Sim.step ?_
      simp only [l56_0_v1_eq]
      refine fun hr => v_a5ISIII_L5I (C_token hi) (v_oS_L5I hop ?_)
      cases ha : (opsOf n).any (fun s => isT s (tk l i)) with
      | false =>
        have e1 : opAt n (tk l i) = [] := by unfold opAt; rw [ha]; rfl
        refine (stop ha fun m k n' => ?_) hr
        rw [e1]
        unfold eV
        rw [hns, hos]
        rfl
      | true =>
        have e1 : opAt n (tk l i) = (tk l i).text := by unfold opAt; rw [ha]; rfl
        rw [e1]
        refine (go ha fun h1 => ?_) hr
        refine Sim.no (ne ha) ?_
        simp only [q56_1_v1_eq]
        refine S_begin 7 (tk l i) ?_
        rw [up hl.len hi]
        by_cases h3 : n = 3
        · refine Sim.yes (by rw [b3, decide_eq_true h3]) ?_
          simp only [q56_2_v1_eq]
          rw [if_pos h3]
          refine S_E ((H _ (by omega) h1).level 3 (by omega)) (fun _ _ _ _ _ _ => rfl) fun r j hj => ?_
          have hf := pw_ok g h1 hj
          refine fin r j hf.1 hf.2 z z' x3 x4 s5 x6 x7 fun m k n' => ?_
          have := rows2 r
          rw [hns, hos] at this
          unfold eV
          simp only [E.k, E.n, E.name, E.names, E.odds, E.kids, E.line, E.col, q56_3_v1_eq, ← this]
          rfl
        · refine Sim.no (by rw [b3, decide_eq_false h3]) ?_
          simp only [q56_2_v1_eq]
          rw [if_neg h3, wrap_up n (by omega)]
          refine S_E ((H _ (by omega) h1).level (n + 1) (by omega)) (fun _ _ _ _ _ _ => rfl) fun r j hj => ?_
          have hf := pw_ok g h1 hj
          refine fin r j hf.1 hf.2 z z' x3 x4 s5 x6 x7 fun m k n' => ?_
          have := rows2 r
          rw [hns, hos] at this
          unfold eV
          simp only [E.k, E.n, E.name, E.names, E.odds, E.kids, E.line, E.col, q56_3_v1_eq, ← this]
          rfl
end
end Go.Proofs.Ytbmcafehpgimfaa.Ps
