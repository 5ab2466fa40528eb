/- Types: the reference's reading and writing. -/
import Derived.Test.YtkpdofiflhjahaaDoorF4
namespace Go.Proofs.YtkpdofiflhjahaaDoor.Ps
set_option linter.unusedVariables false
set_option linter.unusedSimpArgs false
open Go Go.RowKit
theorem C66 (k : Nat) (s x : Bs) (i : Nat) (hi : i ≤ s.length) (hs : s.length ≤ 1000000000) (hx : x.length ≤ 1000) : Ak (k + 1) 66 [sV (ba s), iV (Int.ofNat i), sV (ba x)] [] = some (R (bV (cutP x (s.drop i)).isSome)) := by
  refine (call66 k (ba s) (Int.ofNat i) (ba x)).trans ?_
  rw [e66_eq, ba_size, ba_size, wrap_in _ (by simp only [Int.ofNat_eq_natCast]; omega) (by simp only [Int.ofNat_eq_natCast]; omega), isSome_cutP, List.length_drop]
  have e0 : Int.ofNat i + Int.ofNat x.length = Int.ofNat (i + x.length) := by simp only [Int.ofNat_eq_natCast]; omega
  rw [e0]
  by_cases h : i + x.length ≤ s.length
  · rw [decide_eq_true (show Int.ofNat (i + x.length) ≤ Int.ofNat s.length by simp only [Int.ofNat_eq_natCast]; omega), cond_true]
    have e : (decide (0 ≤ Int.ofNat (i + x.length)) && true && decide (0 ≤ Int.ofNat i) && decide (Int.ofNat i ≤ Int.ofNat (i + x.length))) = true := by simp; omega
    rw [e, cond_true, tn, tn, ba_extract, ba_list, ba_list, beqL_eq]
    refine retP ?_
    rw [List.drop_take, show i + x.length - i = x.length by omega]
    exact ⟨fun e => ⟨by omega, e⟩, fun e => e.2⟩
  · rw [decide_eq_false (show ¬ Int.ofNat (i + x.length) ≤ Int.ofNat s.length by simp only [Int.ofNat_eq_natCast]; omega), cond_false, decide_eq_false (fun e => by omega)]
theorem readR_inv {n : Nat} {s r : Bs} {t : T} (h : readR n s = some (t, r)) : s = textT t ++ r ∧ readT n s = some (t, r) := by
  rw [readR_eq, Option.filter_eq_some_iff] at h
  exact ⟨readT_inv _ _ _ _ h.1, h.1⟩
/-- What the reference hands back. -/
def Res44 (s : Bs) (x : Option (T × Bs)) (o : Option Out) : Prop :=
  ∃ (t' : T) (e' : Int), o = some (R (.tup [t'.v, iV e', bV x.isSome])) ∧ ∀ t r, x = some (t, r) → t' = t ∧ e' = Int.ofNat (s.length - r.length)
theorem Res44.fail {s : Bs} {t' : T} {e' : Int} : Res44 s none (some (R (.tup [t'.v, iV e', bV false]))) := ⟨t', e', rfl, fun t r h => by cases h⟩
theorem Res44.ok {s r : Bs} {t : T} {e' : Int} (h : e' = Int.ofNat (s.length - r.length)) : Res44 s (some (t, r)) (some (R (.tup [t.v, iV e', bV true]))) := ⟨t, e', rfl, fun t' r' h' => by cases h'; exact ⟨rfl, h⟩⟩
theorem drop_of {s a b : Bs} {i : Nat} (h : s.drop i = a ++ b) (hi : i ≤ s.length) : s.drop (s.length - b.length) = b ∧ s.length - b.length = i + a.length ∧ b.length ≤ s.length := by
  have h1 := congrArg List.length h
  rw [List.length_drop, List.length_append] at h1
  have h2 : s.length - b.length = i + a.length := by omega
  refine ⟨?_, h2, by omega⟩
  rw [h2, ← List.drop_drop, h, List.drop_left]
theorem L44 (k n : Nat) (s : Bs) (hs : s.length ≤ 1000000) (hn : n ≤ 40) (n2 : Nat) (d : Int) (hd : d = 40 - n)
    (hΓ : ∀ i : Nat, i ≤ s.length → Res44 s (readR n (s.drop i)) (Ak (k + 1) 44 [sV (ba s), iV (Int.ofNat i), iV (d + 1)] [])) :
    ∀ (m f i : Nat) (acc : List T), i ≤ s.length → s.length - i < m → s.length - i < f → acc.length ≤ i →
      Res44 s ((loopR (readR n) f (s.drop i) acc).map fun x => (T.mk 3 x.1, x.2)) (l44_0_v1 m (Ak (k + 1)) n2 (ba s) (Int.ofNat i) d 0 3 (T.rows acc)) := by
  intro m
  induction m with
  | zero => intro f i acc _ h; omega
  | succ m ih =>
    intro f i acc hi hm hf hacc
    obtain ⟨f, rfl⟩ : ∃ f', f = f' + 1 := ⟨f - 1, by omega⟩
    obtain ⟨t', e', ho, he⟩ := hΓ i hi
    unfold T.v at ho
    rw [l44_0_v1_eq, wrap_in _ (by omega) (by omega), ho, g_t3a2IL2oIoB]
    unfold loopR
    cases hr : readR n (s.drop i) with
    | none => exact Res44.fail (t' := .mk 0 [])
    | some p =>
      obtain ⟨t, r1⟩ := p
      obtain ⟨rfl, rfl⟩ := he t r1 hr
      obtain ⟨hinv, hT⟩ := readR_inv hr
      obtain ⟨h1, h2, h3⟩ := drop_of hinv hi
      have hsz := textT_pos t'
      have hlen : (T.rows acc).length = acc.length := T.rows_len acc
      rw [Option.isSome_some, Bool.not_true, cond_false, q44_0_v1_eq, hlen, ble_t (by simp only [List.length_cons, List.length_nil]; omega)]
      simp only [Bool.and_self, cond_true]
      have hb := C66 k s sepB (s.length - r1.length) (by omega) (by omega) (by decide)
      rw [h1] at hb
      show Res44 s _ (r_oB (Ak (k + 1) 66 [sV (ba s), iV (Int.ofNat (s.length - r1.length)), sV (ba sepB)] []) [] _)
      rw [hb, g_oB, ← T.rows_one, ← T.rows_app]
      cases hc : cutP sepB r1 with
      | some r3 =>
        rw [Option.isSome_some, Bool.not_true, cond_false, q44_1_eq]
        have h5 := congrArg List.length (cutP_some hc)
        rw [List.length_append, show sepB.length = 2 from rfl] at h5
        have e6 : Int.ofNat (s.length - r1.length) + 2 = Int.ofNat (s.length - r3.length) := by simp only [Int.ofNat_eq_natCast]; omega
        have e7 : s.drop (s.length - r3.length) = r3 := by
          have := cutP_some hc
          exact (drop_of (s := s) (a := sepB) (b := r3) (i := s.length - r1.length) (by rw [h1, this]) (by omega)).1
        rw [wrap_in _ (by simp only [Int.ofNat_eq_natCast]; omega) (by simp only [Int.ofNat_eq_natCast]; omega), e6]
        have := ih f (s.length - r3.length) (acc ++ [t']) (by omega) (by omega) (by omega) (by rw [List.length_append, List.length_cons, List.length_nil]; omega)
        rw [e7] at this
        exact this
      | none =>
        rw [Option.isSome_none, Bool.not_false, cond_true]
        have hb2 := C66 k s [41] (s.length - r1.length) (by omega) (by omega) (by decide)
        rw [h1] at hb2
        show Res44 s _ (r_oB (Ak (k + 1) 66 [sV (ba s), iV (Int.ofNat (s.length - r1.length)), sV (ba [41])] []) [] _)
        rw [hb2, g_oB]
        cases hd : cutP [41] r1 with
        | none => exact Res44.fail (t' := .mk 3 _)
        | some r2 =>
          have h5 := congrArg List.length (cutP_some hd)
          rw [List.length_append, List.length_cons, List.length_nil] at h5
          have e6 : IntKind.wrap .i64 (Int.ofNat (s.length - r1.length) + 1) = Int.ofNat (s.length - r2.length) := by
            rw [wrap_up _ (by omega)]; congr 1; omega
          rw [Option.isSome_some, cond_true, T.rows_len, e6]
          by_cases h7 : 2 ≤ (acc ++ [t']).length
          · rw [decide_eq_true (show Int.ofNat (acc ++ [t']).length ≥ 2 by simp only [Int.ofNat_eq_natCast]; omega), cond_true]
            by_cases h8 : (acc ++ [t']).length ≤ 4
            · rw [decide_eq_true (show Int.ofNat (acc ++ [t']).length ≤ 4 by simp only [Int.ofNat_eq_natCast]; omega)]
              simp only [if_pos (And.intro h7 h8)]
              exact Res44.ok (t := .mk 3 _) rfl
            · rw [decide_eq_false (show ¬ Int.ofNat (acc ++ [t']).length ≤ 4 by simp only [Int.ofNat_eq_natCast]; omega)]
              simp only [if_neg (show ¬ (2 ≤ (acc ++ [t']).length ∧ (acc ++ [t']).length ≤ 4) from fun h => h8 h.2)]
              exact Res44.fail (t' := .mk 3 _)
          · rw [decide_eq_false (show ¬ Int.ofNat (acc ++ [t']).length ≥ 2 by simp only [Int.ofNat_eq_natCast]; omega), cond_false]
            simp only [if_neg (show ¬ (2 ≤ (acc ++ [t']).length ∧ (acc ++ [t']).length ≤ 4) from fun h => h7 h.1)]
            exact Res44.fail (t' := .mk 3 _)
theorem C44 (s : Bs) (hs : s.length ≤ 1000000) : ∀ (n k i : Nat), n ≤ 40 → i ≤ s.length → s.length + n + 10 ≤ k → Res44 s (readR n (s.drop i)) (Ak k 44 [sV (ba s), iV (Int.ofNat i), iV (41 - (n : Nat) : Int)] [])
  | n, 0, i, _, _, h => by omega
  | 0, k + 1, i, _, _, _ => by
    rw [show Ak (k + 1) 44 [sV (ba s), iV (Int.ofNat i), iV (41 - (0 : Nat) : Int)] [] = _ from call44 k (ba s) (Int.ofNat i) (41 - (0 : Nat) : Int), e44_eq]
    exact Res44.fail (t' := .mk 0 [])
  | n + 1, k + 1, i, hn, hi, hk => by
    obtain ⟨k, rfl⟩ : ∃ k', k = k' + 1 := ⟨k - 1, by omega⟩
    have hΓ : ∀ i : Nat, i ≤ s.length → Res44 s (readR n (s.drop i)) (Ak (k + 1) 44 [sV (ba s), iV (Int.ofNat i), iV ((40 - (n : Nat) : Int) + 1)] []) := fun i hi => by
      have := C44 s hs n (k + 1) i (by omega) hi (by omega)
      rw [show (41 - (n : Nat) : Int) = 40 - (n : Nat) + 1 by omega] at this
      exact this
    rw [show Ak (k + 1 + 1) 44 [sV (ba s), iV (Int.ofNat i), iV (41 - (n + 1 : Nat) : Int)] [] = _ from call44 (k + 1) (ba s) (Int.ofNat i) (41 - (n + 1 : Nat) : Int), e44_eq,
      show (41 - ((n + 1 : Nat) : Int)) = 40 - (n : Nat) by omega, decide_eq_false (by omega), cond_false]
    have lit : ∀ (x : Bs) (K : Bool → Option Out), x.length ≤ 1000 → r_oB (Ak (k + 1) 66 [sV (ba s), iV (Int.ofNat i), sV (ba x)] []) [] K = K (cutP x (s.drop i)).isSome := fun x K hx => by
      rw [C66 k s x i hi (by omega) hx, g_oB]
    have adv : ∀ {x r : Bs}, cutP x (s.drop i) = some r → s.drop (s.length - r.length) = r ∧ s.length - r.length = i + x.length ∧ r.length ≤ s.length := fun {x r} h => drop_of (cutP_some h) hi
    show Res44 s _ (r_oB (Ak (k + 1) 66 [sV (ba s), iV (Int.ofNat i), sV (ba [98, 111, 111, 108])] []) [] _)
    rw [lit _ _ (by decide)]
    unfold readR
    cases h1 : cutP [98, 111, 111, 108] (s.drop i) with
    | some r =>
      obtain ⟨_, h3, h4⟩ := adv h1
      refine Res44.ok (t := .mk 1 []) ?_
      rw [wrap_in _ (by simp only [Int.ofNat_eq_natCast]; omega) (by simp only [Int.ofNat_eq_natCast]; omega), h3]
      rfl
    | none =>
      simp only [Option.isSome_none, cond_false]
      show Res44 s _ (r_oB (Ak (k + 1) 66 [sV (ba s), iV (Int.ofNat i), sV (ba [105, 110, 116])] []) [] _)
      rw [lit _ _ (by decide)]
      cases h2 : cutP [105, 110, 116] (s.drop i) with
      | some r =>
        obtain ⟨_, h3, h4⟩ := adv h2
        refine Res44.ok (t := .mk 2 []) ?_
        rw [wrap_in _ (by simp only [Int.ofNat_eq_natCast]; omega) (by simp only [Int.ofNat_eq_natCast]; omega), h3]
        rfl
      | none =>
        simp only [Option.isSome_none, cond_false]
        show Res44 s _ (r_oB (Ak (k + 1) 66 [sV (ba s), iV (Int.ofNat i), sV (ba [91])] []) [] _)
        rw [lit _ _ (by decide)]
        cases h5 : cutP [91] (s.drop i) with
        | some r =>
          obtain ⟨h6, h7, h8⟩ := adv h5
          have h9 : i + 1 ≤ s.length := by rw [← show i + [(91 : UInt8)].length = i + 1 from rfl, ← h7]; omega
          have e10 : s.drop (i + 1) = r := by rw [← h6, h7]; rfl
          simp only [Option.isSome_some, cond_true]
          obtain ⟨t', e', ho, he⟩ := hΓ (i + 1) h9
          unfold T.v at ho
          rw [wrap_up _ (by omega), wrap_in _ (by omega) (by omega), ho, g_t3a2IL2oIoB, e10]
          rw [e10] at he
          cases hr : readR n r with
          | none =>
            rw [← T.rows_one]
            exact Res44.fail (t' := .mk 4 [t'])
          | some p =>
            obtain ⟨t, r1⟩ := p
            obtain ⟨rfl, rfl⟩ := he t r1 hr
            obtain ⟨hinv, _⟩ := readR_inv hr
            obtain ⟨h11, h12, h13⟩ := drop_of (s := s) (i := i + 1) (by rw [e10]; exact hinv) h9
            have hb := C66 k s [93] (s.length - r1.length) (by omega) (by omega) (by decide)
            rw [h11] at hb
            simp only [Option.isSome_some, cond_true]
            show Res44 s _ (r_oB (Ak (k + 1) 66 [sV (ba s), iV (Int.ofNat (s.length - r1.length)), sV (ba [93])] []) [] _)
            rw [hb, g_oB, ← T.rows_one]
            cases hc : cutP [93] r1 with
            | none => exact Res44.fail (t' := .mk 4 [t'])
            | some r2 =>
              have h5 := congrArg List.length (cutP_some hc)
              rw [List.length_append, List.length_cons, List.length_nil] at h5
              refine Res44.ok (t := .mk 4 [t']) ?_
              rw [wrap_up _ (by omega)]; congr 1; omega
        | none =>
          simp only [Option.isSome_none, cond_false]
          show Res44 s _ (r_oB (Ak (k + 1) 66 [sV (ba s), iV (Int.ofNat i), sV (ba [40])] []) [] _)
          rw [lit _ _ (by decide)]
          cases h14 : cutP [40] (s.drop i) with
          | none => rw [Option.isSome_none, cond_false, q44_2_eq]; exact Res44.fail (t' := .mk 0 [])
          | some r =>
            obtain ⟨h6, h7, h8⟩ := adv h14
            have h9 : i + 1 ≤ s.length := by rw [← show i + [(40 : UInt8)].length = i + 1 from rfl, ← h7]; omega
            have e10 : s.drop (i + 1) = r := by rw [← h6, h7]; rfl
            have hrl : r.length = s.length - (i + 1) := by rw [← e10, List.length_drop]
            rw [Option.isSome_some, cond_true, wrap_up _ (by omega), l44_0_eq]
            obtain ⟨t', e', ho, he⟩ := hΓ (i + 1) h9
            unfold T.v at ho
            rw [wrap_in _ (by omega) (by omega), ho, g_t3a2IL2oIoB]
            simp only
            unfold loopR
            rw [e10] at he ⊢
            cases hr : readR n r with
            | none => exact Res44.fail (t' := .mk 0 [])
            | some p =>
              obtain ⟨t, r1⟩ := p
              obtain ⟨rfl, rfl⟩ := he t r1 hr
              obtain ⟨hinv, _⟩ := readR_inv hr
              obtain ⟨h1, h2, h3⟩ := drop_of (s := s) (i := i + 1) (by rw [e10]; exact hinv) h9
              have hsz := textT_pos t'
              rw [Option.isSome_some, Bool.not_true, cond_false, q44_0_eq]
              have hb := C66 k s sepB (s.length - r1.length) (by omega) (by omega) (by decide)
              rw [h1] at hb
              show Res44 s _ (r_oB (Ak (k + 1) 66 [sV (ba s), iV (Int.ofNat (s.length - r1.length)), sV (ba sepB)] []) [] _)
              rw [hb, g_oB, ← T.rows_one]
              dsimp only
              cases hc : cutP sepB r1 with
              | some r3 =>
                rw [Option.isSome_some, Bool.not_true, cond_false, q44_1_eq]
                have h5 := congrArg List.length (cutP_some hc)
                rw [List.length_append, show sepB.length = 2 from rfl] at h5
                have e6 : Int.ofNat (s.length - r1.length) + 2 = Int.ofNat (s.length - r3.length) := by simp only [Int.ofNat_eq_natCast]; omega
                have e7 : s.drop (s.length - r3.length) = r3 := by
                  have := cutP_some hc
                  exact (drop_of (s := s) (a := sepB) (b := r3) (i := s.length - r1.length) (by rw [h1, this]) (by omega)).1
                rw [wrap_in _ (by simp only [Int.ofNat_eq_natCast]; omega) (by simp only [Int.ofNat_eq_natCast]; omega), e6]
                have := L44 k n s hs (by omega) (k + 1) (40 - (n : Nat) : Int) rfl hΓ k r.length (s.length - r3.length) [t'] (by omega) (by omega) (by omega) (by simp only [List.length_cons, List.length_nil]; omega)
                rw [e7] at this
                exact this
              | none =>
                rw [Option.isSome_none, Bool.not_false, cond_true]
                have hb2 := C66 k s [41] (s.length - r1.length) (by omega) (by omega) (by decide)
                rw [h1] at hb2
                show Res44 s _ (r_oB (Ak (k + 1) 66 [sV (ba s), iV (Int.ofNat (s.length - r1.length)), sV (ba [41])] []) [] _)
                rw [hb2, g_oB]
                cases hd : cutP [41] r1 with
                | none => exact Res44.fail (t' := .mk 3 [t'])
                | some r2 =>
                  simp only [List.nil_append, List.length_cons, List.length_nil, show ¬ (2 ≤ 0 + 1 ∧ 0 + 1 ≤ 4) by omega, if_false]
                  exact Res44.fail (t' := .mk 3 [t'])
theorem C15 (k : Nat) (s : Bs) (hs : s.length ≤ 500000) (hk : 500300 ≤ k) : Ak k 15 [sV (ba s)] [] = some (R (parV (parseT s))) := by
  obtain ⟨k, rfl⟩ : ∃ k', k = k' + 1 := ⟨k - 1, by omega⟩
  refine (call15 k (ba s)).trans ?_
  rw [e15_eq]
  obtain ⟨t', e', ho, he⟩ := C44 s (by omega) 40 k 0 (by omega) (by omega) (by omega)
  rw [List.drop_zero] at ho he
  show r_t3a2IL2oIoB (Ak k 44 [sV (ba s), iV (Int.ofNat 0), iV (41 - (40 : Nat) : Int)] []) [] _ = _
  unfold T.v at ho
  rw [ho, g_t3a2IL2oIoB, ba_size, ← parseR_eq]
  unfold parseR
  cases hr : readR 40 s with
  | none => rfl
  | some p =>
    obtain ⟨t, r⟩ := p
    obtain ⟨rfl, rfl⟩ := he t r hr
    have hinv := congrArg List.length (readR_inv hr).1
    rw [List.length_append] at hinv
    have := textT_pos t'
    rw [Option.isSome_some, Bool.not_true, cond_false, ofNat_neb]
    cases r with
    | nil => rw [decide_eq_true (by simp), Bool.not_true, cond_false, q15_0_eq]; rfl
    | cons c r => rw [decide_eq_false (by simp only [List.length_cons] at *; omega), Bool.not_false, cond_true]; rfl
end Go.Proofs.YtkpdofiflhjahaaDoor.Ps
