/- Types: the reading of texts. -/
import Derived.Test.YtkpdofiflhjahaaDoorF3
namespace Go.Proofs.YtkpdofiflhjahaaDoor.Ps
set_option linter.unusedVariables false
set_option linter.unusedSimpArgs false
open Go Go.RowKit
theorem ba_extract (s : Bs) (i j : Nat) : (ba s).extract i j = ba ((s.take j).drop i) := by
  apply ByteArray.ext
  rw [ByteArray.data_extract]
  unfold ba
  apply Array.ext'
  simp [List.extract_eq_take_drop, List.drop_take]
theorem beqL_eq : ∀ a b : List UInt8, beqL a b = decide (a = b)
  | [], [] => rfl
  | [], b :: s => by rw [beqL] <;> simp
  | a :: r, [] => by rw [beqL] <;> simp
  | a :: r, b :: s => by
    rw [beqL, beqL_eq r s]
    by_cases h : a = b
    · subst h
      rw [show Nat.beq a.toNat a.toNat = true from Nat.beq_refl _, cond_true]
      simp
    · have : Nat.beq a.toNat b.toNat = false := by
        cases hq : Nat.beq a.toNat b.toNat
        · rfl
        · exact absurd (UInt8.toNat_inj.1 (Nat.eq_of_beq_eq_true hq)) h
      rw [this, cond_false]
      simp [h]
theorem isSome_cutP (p s : Bs) : (cutP p s).isSome = decide (p.length ≤ s.length ∧ s.take p.length = p) := by
  unfold cutP
  rw [Bool.eq_iff_iff, decide_eq_true_iff]
  constructor
  · intro h
    split at h
    · rename_i hp
      obtain ⟨q, rfl⟩ := List.isPrefixOf_iff_prefix.1 hp
      simp
    · cases h
  · rintro ⟨h1, h2⟩
    rw [if_pos]
    · rfl
    · rw [List.isPrefixOf_iff_prefix]
      exact ⟨s.drop p.length, by conv => lhs; lhs; rw [← h2]
                                 exact List.take_append_drop _ _⟩
theorem cutP_val {p s r : Bs} (h : cutP p s = some r) : r = s.drop p.length := by
  rw [cutP_some h]; simp
theorem C91 (k : Nat) (s p : Bs) : Ak (k + 1) 91 [sV (ba s), sV (ba p)] [] = some (R (bV (cutP p s).isSome)) := by
  refine (call91 k (ba s) (ba p)).trans ?_
  rw [e91_eq, ba_size, ba_size, isSome_cutP]
  by_cases h : p.length ≤ s.length
  · rw [decide_eq_true (by simp only [Int.ofNat_eq_natCast]; omega), cond_true]
    have e : (decide (0 ≤ Int.ofNat p.length) && true && true && decide (0 ≤ Int.ofNat p.length)) = true := by simp
    rw [e, cond_true, tn, ba_extract, ba_list, ba_list, beqL_eq, List.drop_zero]
    refine retP ?_
    exact ⟨fun e => ⟨h, e⟩, fun e => e.2⟩
  · rw [decide_eq_false (by simp only [Int.ofNat_eq_natCast]; omega), cond_false, decide_eq_false (fun e => h e.1)]
def cutV (p s : Bs) : V := .tup [sV (ba ((cutP p s).getD s)), bV (cutP p s).isSome]
theorem C65 (k : Nat) (s p : Bs) : Ak (k + 3) 65 [sV (ba s), sV (ba p)] [] = some (R (cutV p s)) := by
  have h83 : Ak (k + 2) 83 [sV (ba s), sV (ba p)] [] = some (R (cutV p s)) := by
    refine (call83 (k + 1) (ba s) (ba p)).trans ?_
    rw [e83_eq, C91, g_oB]
    unfold cutV
    cases h : cutP p s with
    | none => rfl
    | some r =>
      have e := cutP_some h
      rw [Option.isSome_some, Bool.not_true, cond_false, q83_0_eq, ba_size, ba_size, tn, tn, ba_extract, List.take_of_length_le (Nat.le_refl _), ← cutP_val h,
        decide_eq_true (by simp), decide_eq_true (by simp), decide_eq_true (by simp), decide_eq_true (by rw [e]; simp only [List.length_append, Int.ofNat_eq_natCast]; omega)]
      rfl
  refine (call65 (k + 2) (ba s) (ba p)).trans ?_
  rw [e65_eq, h83]
  unfold cutV
  rw [g_t2oSoB]
/-! ### reading a type -/
def okV (x : Option (T × Bs)) : V := match x with
  | some (t, r) => .tup [t.v, sV (ba r), bV true]
  | none => .tup [T.v (.mk 0 []), sV (ba []), bV false]
theorem readT_le : ∀ {n : Nat} {s : Bs} {t : T} {r : Bs}, readT n s = some (t, r) → r.length ≤ s.length := by
  intro n s t r h
  rw [readT_inv n s t r h]; simp
theorem readT_size : ∀ {n : Nat} {s : Bs} {t : T} {r : Bs}, readT n s = some (t, r) → t.size ≤ (textT t).length := by
  intro n
  induction n with
  | zero => intro s t r h; cases h
  | succ n ih =>
    intro s t r h
    have lp : ∀ (fin : Bs) (f : Nat) (s : Bs) (acc l : List T) (r : Bs), loopL (readT n) fin f s acc = some (l, r) → (∀ t ∈ acc, t.size ≤ (textT t).length) → ∀ t ∈ l, t.size ≤ (textT t).length := by
      intro fin f
      induction f with
      | zero => intro s acc l r h; cases h
      | succ f ih2 =>
        intro s acc l r h ha
        unfold loopL at h
        split at h
        · cases h
        · rename_i t r1 ht
          have ha2 : ∀ x ∈ acc ++ [t], x.size ≤ (textT x).length := fun x hx => by
            rcases List.mem_append.1 hx with hx | hx
            · exact ha x hx
            · rw [List.mem_singleton] at hx; subst hx; exact ih ht
          split at h
          · cases h; exact ha2
          · split at h
            · cases h
            · exact ih2 _ _ _ _ h ha2
    have sum : ∀ l : List T, (∀ t ∈ l, t.size ≤ (textT t).length) → T.sizes l ≤ (Lib.join (textTs l) sepB).length := by
      intro l
      induction l with
      | nil => intro _; rw [T.sizes]; omega
      | cons a l ih2 =>
        intro hl
        have h1 := hl a (by simp)
        have h2 := ih2 (fun t ht => hl t (by simp [ht]))
        cases l with
        | nil => rw [textTs, textTs, Lib.join_one, T.sizes, T.sizes]; omega
        | cons b l => rw [textTs, textTs, join_two, List.length_append, List.length_append, ← textTs, T.sizes]; omega
    unfold readT at h
    split at h
    · cases h; rw [textT, T.size, T.sizes]; simp
    · split at h
      · cases h; rw [textT, T.size, T.sizes]; simp
      · split at h
        · rw [Option.map_eq_some_iff] at h
          obtain ⟨⟨l, q⟩, hl, h⟩ := h
          cases h
          have := sum l (lp _ _ _ _ _ _ hl (fun t ht => by cases ht))
          rw [textT, T.size]
          simp only [List.length_append, List.length_cons, List.length_nil, show ¬ ((3 : Int) = 1) by decide, show ¬ ((3 : Int) = 2) by decide, if_false, if_true]
          omega
        · split at h
          · rw [Option.map_eq_some_iff] at h
            obtain ⟨⟨l, q⟩, hl, h⟩ := h
            cases h
            have := sum l (lp _ _ _ _ _ _ hl (fun t ht => by cases ht))
            rw [textT, T.size]
            simp only [List.length_append, List.length_cons, List.length_nil, show ¬ ((4 : Int) = 1) by decide, show ¬ ((4 : Int) = 2) by decide, show ¬ ((4 : Int) = 3) by decide, if_false, if_true]
            omega
          · cases h
theorem L43 (k n : Nat) (hn : n ≤ 1000) (fin : Bs) (κ : Int) (n2 : Nat) (N : Nat) (hN : N ≤ 1000000)
    (hΓ : ∀ s : Bs, s.length ≤ N → Ak (k + 3) 43 [sV (ba s), iV (n : Nat)] [] = some (R (okV (readT n s)))) :
    ∀ (m f : Nat) (r : Bs) (acc : List T), r.length < m → r.length < f → r.length ≤ N → acc.length + r.length ≤ N →
      l43_0_v1 m (Ak (k + 3)) n2 (n + 1 : Nat) (ba fin) (ba r) true 0 κ (T.rows acc) = some (R (okV ((loopL (readT n) fin f r acc).map fun x => (T.mk κ x.1, x.2)))) := by
  intro m
  induction m with
  | zero => intro f r acc h; omega
  | succ m ih =>
    intro f r acc hm hf hr hacc
    obtain ⟨f, rfl⟩ : ∃ f', f = f' + 1 := ⟨f - 1, by omega⟩
    have h1 := hΓ r hr
    rw [l43_0_v1_eq, cond_true, q43_4_v1_eq, wrap_in _ (by omega) (by omega), show ((n + 1 : Nat) : Int) - 1 = (n : Int) by omega, h1]
    unfold loopL okV
    cases hread : readT n r with
    | none =>
      simp only
      rw [g_t3a2IL2oSoB, Bool.not_false, cond_true, q43_7_eq]
      rfl
    | some p =>
      obtain ⟨t, r1⟩ := p
      have hle := readT_le hread
      simp only
      rw [g_t3a2IL2oSoB, Bool.not_true, cond_false, q43_5_v1_eq, T.rows_len, ble_t (by simp only [List.length_cons, List.length_nil]; omega)]
      simp only [Bool.and_self, cond_true]
      rw [C65, cutV, g_t2oSoB, ← T.rows_one, ← T.rows_app]
      cases hc : cutP fin r1 with
      | some r2 => rfl
      | none =>
        simp only [Option.isSome_none, cond_false]
        rw [q43_6_eq]
        show r_t2oSoB (Ak (k + 3) 65 [sV (ba r1), sV (ba sepB)] []) [] _ = _
        rw [C65, cutV, g_t2oSoB]
        cases hs : cutP sepB r1 with
        | none =>
          simp only [Option.isSome_none, Option.getD_none]
          obtain ⟨m, rfl⟩ : ∃ m', m = m' + 1 := ⟨m - 1, by
            have := readT_size hread
            have h2 := t.size_pos
            have h3 := congrArg List.length (readT_inv _ _ _ _ hread)
            rw [List.length_append] at h3
            omega⟩
          rw [l43_0_v1_eq, cond_false, q43_7_eq]
          rfl
        | some r3 =>
          simp only [Option.isSome_some, Option.getD_some]
          have h3 := congrArg List.length (cutP_some hs)
          rw [List.length_append, show sepB.length = 2 from rfl] at h3
          rw [ih f r3 (acc ++ [t]) (by omega) (by omega) (by omega) (by rw [List.length_append, List.length_cons, List.length_nil]; omega)]
          rfl
theorem C43 : ∀ (n k : Nat) (s : Bs) (N : Nat), n ≤ 1000 → N ≤ 1000000 → s.length ≤ N → N + n + 10 ≤ k → Ak k 43 [sV (ba s), iV (n : Nat)] [] = some (R (okV (readT n s)))
  | 0, 0, s, N, _, _, _, h => by omega
  | 0, k + 1, s, N, _, _, _, _ => by
    refine (call43 k (ba s) 0).trans ?_
    rw [e43_eq]
    rfl
  | n + 1, 0, s, N, _, _, _, h => by omega
  | n + 1, k + 1, s, N, hn, hN, hs, hk => by
    obtain ⟨k, rfl⟩ : ∃ k', k = k' + 3 := ⟨k - 3, by omega⟩
    have hΓ : ∀ s : Bs, s.length ≤ N → Ak (k + 3) 43 [sV (ba s), iV (n : Nat)] [] = some (R (okV (readT n s))) := fun s hs => C43 n (k + 3) s N (by omega) hN hs (by omega)
    refine (call43 (k + 3) (ba s) (n + 1 : Nat)).trans ?_
    rw [e43_eq, decide_eq_false (by omega), cond_false, q43_0_eq]
    show r_t2oSoB (Ak (k + 3) 65 [sV (ba s), sV (ba [98, 111, 111, 108])] []) [] _ = _
    rw [C65, cutV, g_t2oSoB]
    unfold readT
    cases h1 : cutP [98, 111, 111, 108] s with
    | some r => rfl
    | none =>
      simp only [Option.isSome_none, cond_false]
      rw [q43_1_eq]
      show r_t2oSoB (Ak (k + 3) 65 [sV (ba s), sV (ba [105, 110, 116])] []) [] _ = _
      rw [C65, cutV, g_t2oSoB]
      cases h2 : cutP [105, 110, 116] s with
      | some r => rfl
      | none =>
        simp only [Option.isSome_none, cond_false]
        rw [q43_2_eq]
        show r_t2oSoB (Ak (k + 3) 65 [sV (ba s), sV (ba [40])] []) [] _ = _
        rw [C65, cutV, g_t2oSoB]
        have go : ∀ (fin : Bs) (κ : Int) (r : Bs), r.length + 1 ≤ N → q43_3 (Ak (k + 3)) (k + 3) (n + 1 : Nat) κ (ba fin) (ba r) true 0 = some (R (okV ((loopL (readT n) fin (r.length + 1) r []).map fun x => (T.mk κ x.1, x.2)))) := by
          intro fin κ r hr
          rw [q43_3_eq, l43_0_eq, cond_true, q43_4_eq, wrap_in _ (by omega) (by omega), show ((n + 1 : Nat) : Int) - 1 = (n : Int) by omega, hΓ r (by omega)]
          unfold loopL okV
          cases hread : readT n r with
          | none =>
            simp only
            rw [g_t3a2IL2oSoB, Bool.not_false, cond_true, q43_7_eq]
            rfl
          | some p =>
            obtain ⟨t, r1⟩ := p
            have hle := readT_le hread
            simp only
            rw [g_t3a2IL2oSoB, Bool.not_true, cond_false, q43_5_eq, C65, cutV, g_t2oSoB, ← T.rows_one]
            cases hc : cutP fin r1 with
            | some r2 => rfl
            | none =>
              simp only [Option.isSome_none, cond_false]
              rw [q43_6_eq]
              show r_t2oSoB (Ak (k + 3) 65 [sV (ba r1), sV (ba sepB)] []) [] _ = _
              rw [C65, cutV, g_t2oSoB]
              cases hs : cutP sepB r1 with
              | none =>
                simp only [Option.isSome_none, Option.getD_none]
                rw [l43_0_v1_eq, cond_false, q43_7_eq]
                rfl
              | some r3 =>
                simp only [Option.isSome_some, Option.getD_some]
                have h3 := congrArg List.length (cutP_some hs)
                rw [List.length_append, show sepB.length = 2 from rfl] at h3
                rw [L43 k n (by omega) fin κ (k + 3) N hN hΓ (k + 2) r.length r3 [t] (by omega) (by omega) (by omega) (by simp only [List.length_cons, List.length_nil]; omega)]
                rfl
        cases h3 : cutP [40] s with
        | some r =>
          simp only [Option.isSome_some, Option.getD_some, Bool.not_true, cond_false]
          have h4 := congrArg List.length (cutP_some h3)
          rw [List.length_append, List.length_cons, List.length_nil] at h4
          exact go [41] 3 r (by omega)
        | none =>
          simp only [Option.isSome_none, Option.getD_none, Bool.not_false, cond_true]
          show r_t2oSoB (Ak (k + 3) 65 [sV (ba s), sV (ba [91])] []) [] _ = _
          rw [C65, cutV, g_t2oSoB]
          cases h5 : cutP [91] s with
          | some r =>
            simp only [Option.isSome_some, Option.getD_some]
            have h4 := congrArg List.length (cutP_some h5)
            rw [List.length_append, List.length_cons, List.length_nil] at h4
            exact go [93] 4 r (by omega)
          | none =>
            simp only [Option.isSome_none, Option.getD_none]
            rw [q43_3_eq, l43_0_eq, cond_false, q43_7_eq]
            rfl
def parV (x : Option T) : V := match x with
  | some t => .tup [t.v, iV 0]
  | none => .tup [T.v (.mk 0 []), iV 33]
theorem C14 (k : Nat) (s : Bs) (hs : s.length ≤ 500000) (hk : 500300 ≤ k) : Ak k 14 [sV (ba s)] [] = some (R (parV (parseT s))) := by
  obtain ⟨k, rfl⟩ : ∃ k', k = k' + 1 := ⟨k - 1, by omega⟩
  refine (call14 k (ba s)).trans ?_
  rw [e14_eq]
  show r_t3a2IL2oSoB (Ak k 43 [sV (ba s), iV ((40 : Nat) : Int)] []) [] _ = _
  rw [C43 40 k s 500000 (by omega) (by omega) hs (by omega)]
  unfold okV parseT
  cases h : readT 40 s with
  | none => rfl
  | some p =>
    obtain ⟨t, r⟩ := p
    simp only
    rw [g_t3a2IL2oSoB, Bool.not_true, cond_false]
    show (bif !beqL r [] then _ else _) = _
    rw [beqL_eq]
    cases r with
    | cons c r => rfl
    | nil =>
      rw [decide_eq_true rfl, Bool.not_true, cond_false]
      have := C16 k (by omega) t
      unfold T.v at this
      rw [this, g_oB]
      cases hd : deepT 40 t with
      | false => simp only [hd, Bool.false_eq_true, if_false]; rfl
      | true => rw [Bool.not_true, cond_false, q14_0_eq]; simp only [hd, if_true]; rfl
end Go.Proofs.YtkpdofiflhjahaaDoor.Ps
