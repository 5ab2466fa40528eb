/- Numbers as texts, in plain Lean. -/
import Derived.Test.YtkpdofiflhjahaaDoorVp
import Derived.Lib.ItoaNum
import Derived.Lib.AtoiAll
namespace Go.Proofs.YtkpdofiflhjahaaDoor.Ps
set_option linter.unusedVariables false
open Go Go.Lib

def isDig (c : UInt8) : Bool := decide (48 ≤ c.toNat) && decide (c.toNat ≤ 57)
def numC (c : UInt8) : Bool := decide (c.toNat = 45) || isDig c
def valD (acc : Nat) (l : Bs) : Nat := l.foldl (fun a c => a * 10 + (c.toNat - 48)) acc
theorem valD_nil (acc : Nat) : valD acc [] = acc := rfl
theorem valD_cons (acc : Nat) (c : UInt8) (r : Bs) : valD acc (c :: r) = valD (acc * 10 + (c.toNat - 48)) r := by unfold valD; rw [List.foldl_cons]
theorem valD_app (a : Bs) (acc : Nat) (b : Bs) : valD acc (a ++ b) = valD (valD acc a) b := by unfold valD; rw [List.foldl_append]
theorem valD_ge : ∀ (a : Bs) (acc : Nat), acc ≤ valD acc a
  | [], _ => Nat.le_refl _
  | c :: a, acc => by rw [valD_cons]; have := valD_ge a (acc * 10 + (c.toNat - 48)); omega
theorem decDigits_step {u : Nat} (h : ¬ u < 10) : decDigits u = decDigits (u / 10) ++ [UInt8.ofNat (48 + u % 10)] := by rw [decDigits, dif_neg h]
theorem ofNat_dig {d : Nat} (h : d < 10) : (UInt8.ofNat (48 + d)).toNat = 48 + d := by
  rw [UInt8.toNat_ofNat']
  omega
theorem decDigits_all (u : Nat) : ∀ c ∈ decDigits u, isDig c = true := by
  induction u using Nat.strongRecOn with
  | ind u ih =>
    by_cases h : u < 10
    · rw [decDigits_one h]
      intro c hc
      rw [List.mem_singleton] at hc
      subst hc
      unfold isDig
      rw [ofNat_dig h]
      simp; omega
    · rw [decDigits_step h]
      intro c hc
      rcases List.mem_append.1 hc with hc | hc
      · exact ih (u / 10) (by omega) c hc
      · rw [List.mem_singleton] at hc
        subst hc
        unfold isDig
        rw [ofNat_dig (by omega)]
        simp; omega
theorem decDigits_val (u : Nat) : valD 0 (decDigits u) = u := by
  induction u using Nat.strongRecOn with
  | ind u ih =>
    by_cases h : u < 10
    · rw [decDigits_one h, valD_cons, valD_nil, ofNat_dig h]; omega
    · rw [decDigits_step h, valD_app, ih (u / 10) (by omega), valD_cons, valD_nil, ofNat_dig (by omega)]; omega
theorem decDigits_ne (u : Nat) : decDigits u ≠ [] := by
  by_cases h : u < 10
  · rw [decDigits_one h]; simp
  · rw [decDigits_step h]; simp
theorem decDigits_head (u : Nat) (h1 : 1 ≤ u) : (decDigits u).head? ≠ some 48 := by
  induction u using Nat.strongRecOn with
  | ind u ih =>
    by_cases h : u < 10
    · rw [decDigits_one h]
      intro hc
      have := congrArg UInt8.toNat (Option.some.inj hc)
      rw [ofNat_dig h] at this
      have e : (48 : UInt8).toNat = 48 := rfl
      omega
    · rw [decDigits_step h, List.head?_append]
      have := ih (u / 10) (by omega) (by omega)
      cases hq : (decDigits (u / 10)).head? with
      | none => exact absurd (List.head?_eq_none_iff.1 hq) (decDigits_ne _)
      | some c => rw [hq] at this; exact this
theorem decDigits_len (k : Nat) : ∀ u : Nat, u < 10 ^ (k + 1) → (decDigits u).length ≤ k + 1 := by
  induction k with
  | zero => intro u h; rw [decDigits_one (by omega)]; simp
  | succ k ih =>
    intro u h
    by_cases h1 : u < 10
    · rw [decDigits_one h1]; simp
    · rw [decDigits_step h1, List.length_append]
      have := ih (u / 10) (by rw [Nat.pow_succ] at h; omega)
      simp only [List.length_cons, List.length_nil]
      omega
theorem decDigits_canon (ds : Bs) : ds ≠ [] → (∀ c ∈ ds, isDig c = true) → (ds.head? ≠ some 48 ∨ ds.length = 1) → decDigits (valD 0 ds) = ds ∧ (ds.head? ≠ some 48 → 1 ≤ valD 0 ds) := by
  suffices ∀ (n : Nat) (ds : Bs), ds.length = n → ds ≠ [] → (∀ c ∈ ds, isDig c = true) → (ds.head? ≠ some 48 ∨ ds.length = 1) → decDigits (valD 0 ds) = ds ∧ (ds.head? ≠ some 48 → 1 ≤ valD 0 ds) from this _ ds rfl
  intro n
  induction n with
  | zero => intro ds h h1; exact absurd (List.eq_nil_of_length_eq_zero h) h1
  | succ n ih =>
    intro ds hl hne hd hc
    obtain ⟨d', c, rfl⟩ : ∃ d' c, ds = d' ++ [c] := ⟨ds.dropLast, ds.getLast hne, (List.dropLast_concat_getLast hne).symm⟩
    have hcd := hd c (by simp)
    unfold isDig at hcd
    simp only [Bool.and_eq_true, decide_eq_true_eq] at hcd
    have back : UInt8.ofNat (48 + (c.toNat - 48)) = c := by
      have : 48 + (c.toNat - 48) = c.toNat := by omega
      rw [this]; exact UInt8.ofNat_toNat
    cases hq : d' with
    | nil =>
      subst hq
      simp only [List.nil_append, valD_cons, valD_nil, Nat.zero_mul, Nat.zero_add]
      refine ⟨by rw [decDigits_one (by omega), back], fun h => ?_⟩
      rcases Nat.eq_zero_or_pos (c.toNat - 48) with h0 | h0
      · exact absurd (show [c].head? = some 48 by
          have : c.toNat = 48 := by omega
          have : c = 48 := UInt8.toNat_inj.1 this
          rw [this]; rfl) h
      · exact h0
    | cons x xs =>
      rw [← hq]
      have h48 : d'.head? ≠ some 48 := by
        rcases hc with hc | hc
        · rw [hq] at hc ⊢; exact hc
        · rw [hq] at hc; simp at hc
      obtain ⟨h1, h2⟩ := ih d' (by simp at hl; omega) (by rw [hq]; simp) (fun z hz => hd z (by simp [hz])) (.inl h48)
      have h3 := h2 h48
      rw [valD_app, valD_cons, valD_nil]
      refine ⟨?_, fun _ => by omega⟩
      rw [decDigits_step (by omega)]
      have e1 : (valD 0 d' * 10 + (c.toNat - 48)) / 10 = valD 0 d' := by omega
      have e2 : (valD 0 d' * 10 + (c.toNat - 48)) % 10 = c.toNat - 48 := by omega
      rw [e1, e2, h1, back]

theorem parse_digits : ∀ (l : Bs) (acc : Nat), (∀ c ∈ l, isDig c = true) → valD acc l < 18446744073709551616 → parseUint10 acc l = .ok (valD acc l)
  | [], acc, _, _ => rfl
  | c :: r, acc, hd, hv => by
    have hc := hd c (by simp)
    unfold isDig at hc
    simp only [Bool.and_eq_true, decide_eq_true_eq] at hc
    rw [valD_cons] at hv
    have := valD_ge r (acc * 10 + (c.toNat - 48))
    rw [parseUint10, if_pos hc, if_neg (by omega), if_neg (by omega), valD_cons]
    exact parse_digits r _ (fun z hz => hd z (by simp [hz])) hv
theorem itoa_pos {n : Int} (h : 0 ≤ n) : itoa n = decDigits n.toNat := by unfold itoa; rw [if_neg (by omega)]
theorem itoa_min {n : Int} (h : n < 0) : itoa n = 45 :: decDigits n.natAbs := by unfold itoa; rw [if_pos h]
theorem atoi_itoa (n : Int) (h0 : -9223372036854775808 ≤ n) (h1 : n ≤ 9223372036854775807) : atoiAll (itoa n) = .ok n := by
  by_cases h : n < 0
  · rw [itoa_min h]
    unfold atoiAll
    have e : (45 : UInt8).toNat = 45 := rfl
    simp only [e, or_true, if_true]
    unfold parseMag
    rw [if_neg (decDigits_ne _), parse_digits _ _ (decDigits_all _) (by rw [decDigits_val]; omega), decDigits_val]
    simp only [not_true_eq_false, false_and, if_false, true_and]
    rw [if_neg (by omega)]
    congr 1
    omega
  · rw [itoa_pos (by omega)]
    cases hq : decDigits n.toNat with
    | nil => exact absurd hq (decDigits_ne _)
    | cons c r =>
      have hc := decDigits_all n.toNat c (by rw [hq]; simp)
      unfold isDig at hc
      simp only [Bool.and_eq_true, decide_eq_true_eq] at hc
      unfold atoiAll
      dsimp only
      have e1 : ¬ (c.toNat = 43 ∨ c.toNat = 45) := by omega
      have e2 : ¬ (c.toNat = 45) := by omega
      have e3 : (if c.toNat = 43 ∨ c.toNat = 45 then r else c :: r) = c :: r := if_neg e1
      rw [e3]
      simp only [e2]
      unfold parseMag
      rw [if_neg (by simp), ← hq, parse_digits _ _ (decDigits_all _) (by rw [decDigits_val]; omega), decDigits_val]
      simp only [not_false_eq_true, true_and, false_and, if_false]
      rw [if_neg (by omega)]
      congr 1
      omega
/-! ### Reading a number as the program does -/
def spanN : Nat → Bs → Bs
  | 0, _ => []
  | _ + 1, [] => []
  | n + 1, c :: r => if numC c then c :: spanN n r else []
def readI (s : Bs) : Option (Int × Bs) :=
  match atoiAll (spanN 11 s) with
  | .ok v => if itoa v = spanN 11 s then some (v, s.drop (spanN 11 s).length) else none
  | _ => none
def goodB (r : Bs) : Prop := ∀ c, r.head? = some c → numC c = false
theorem span_front : ∀ (n : Nat) (s : Bs), s = spanN n s ++ s.drop (spanN n s).length
  | 0, s => rfl
  | _ + 1, [] => rfl
  | n + 1, c :: r => by
    unfold spanN
    split
    · simp only [List.cons_append, List.length_cons, List.drop_succ_cons]
      rw [← span_front n r]
    · rfl
theorem span_all : ∀ (n : Nat) (a r : Bs), (∀ c ∈ a, numC c = true) → a.length ≤ n → goodB r → spanN n (a ++ r) = a
  | 0, a, r, _, hl, _ => by rw [List.eq_nil_of_length_eq_zero (Nat.le_zero.1 hl)]; rfl
  | n + 1, [], r, _, _, hg => by
    cases r with
    | nil => rfl
    | cons c r => rw [List.nil_append]; unfold spanN; rw [hg c rfl]; rfl
  | n + 1, c :: a, r, hc, hl, hg => by
    rw [List.cons_append]
    unfold spanN
    rw [hc c (by simp), if_pos rfl, span_all n a r (fun z hz => hc z (by simp [hz])) (by simpa using hl) hg]
theorem readI_inv {s r : Bs} {v : Int} (h : readI s = some (v, r)) : s = itoa v ++ r := by
  unfold readI at h
  split at h
  · split at h
    · rename_i v' _ he
      cases h
      rw [he]
      exact span_front 11 s
    · cases h
  · cases h
theorem itoa_numC (v : Int) : ∀ c ∈ itoa v, numC c = true := by
  have hd : ∀ u, ∀ c ∈ decDigits u, numC c = true := fun u c hc => by unfold numC; rw [decDigits_all u c hc, Bool.or_true]
  by_cases h : v < 0
  · rw [itoa_min h]
    intro c hc
    rcases List.mem_cons.1 hc with rfl | hc
    · rfl
    · exact hd _ c hc
  · rw [itoa_pos (by omega)]; exact hd _
theorem itoa_len {v : Int} (h0 : -2147483648 ≤ v) (h1 : v ≤ 2147483647) : (itoa v).length ≤ 11 := by
  by_cases h : v < 0
  · rw [itoa_min h, List.length_cons]
    have := decDigits_len 9 v.natAbs (by omega)
    omega
  · rw [itoa_pos (by omega)]
    have := decDigits_len 9 v.toNat (by omega)
    omega
theorem readI_text {v : Int} {r : Bs} (h0 : -2147483648 ≤ v) (h1 : v ≤ 2147483647) (hg : goodB r) : readI (itoa v ++ r) = some (v, r) := by
  unfold readI
  rw [span_all 11 _ r (itoa_numC v) (itoa_len h0 h1) hg, atoi_itoa v (by omega) (by omega)]
  simp
/-! ### .. and as the reference does -/
def spanD : Nat → Bs → Bs
  | 0, _ => []
  | _ + 1, [] => []
  | n + 1, c :: r => if isDig c then c :: spanD n r else []
def cutM (s : Bs) : Bool × Bs := match s with
  | [] => (false, [])
  | c :: r => if c = 45 then (true, r) else (false, c :: r)
def readNum (s : Bs) : Option (Int × Bs) :=
  let neg := (cutM s).1
  let ds := spanD 11 (cutM s).2
  let n : Int := if neg then -(valD 0 ds : Int) else valD 0 ds
  if ds ≠ [] ∧ (ds.head? ≠ some 48 ∨ ds.length = 1 ∧ neg = false) ∧ -2147483648 ≤ n ∧ n ≤ 2147483647 then some (n, (cutM s).2.drop ds.length) else none
theorem spanD_front : ∀ (n : Nat) (s : Bs), s = spanD n s ++ s.drop (spanD n s).length
  | 0, s => rfl
  | _ + 1, [] => rfl
  | n + 1, c :: r => by
    unfold spanD
    split
    · simp only [List.cons_append, List.length_cons, List.drop_succ_cons]
      rw [← spanD_front n r]
    · rfl
theorem spanD_dig : ∀ (n : Nat) (s : Bs), ∀ c ∈ spanD n s, isDig c = true
  | 0, s, c, h => by cases h
  | _ + 1, [], c, h => by cases h
  | n + 1, x :: r, c, h => by
    unfold spanD at h
    split at h
    · rcases List.mem_cons.1 h with rfl | h
      · assumption
      · exact spanD_dig n r c h
    · cases h
theorem spanD_all : ∀ (n : Nat) (a r : Bs), (∀ c ∈ a, isDig c = true) → a.length ≤ n → goodB r → spanD n (a ++ r) = a
  | 0, a, r, _, hl, _ => by rw [List.eq_nil_of_length_eq_zero (Nat.le_zero.1 hl)]; rfl
  | n + 1, [], r, _, _, hg => by
    cases r with
    | nil => rfl
    | cons c r =>
      rw [List.nil_append]
      have := hg c rfl
      unfold numC at this
      rw [Bool.or_eq_false_iff] at this
      unfold spanD
      rw [this.2]; rfl
  | n + 1, c :: a, r, hc, hl, hg => by
    rw [List.cons_append]
    unfold spanD
    rw [hc c (by simp), if_pos rfl, spanD_all n a r (fun z hz => hc z (by simp [hz])) (by simpa using hl) hg]
theorem cutM_front (s : Bs) : s = (if (cutM s).1 then [45] else []) ++ (cutM s).2 := by
  cases s with
  | nil => rfl
  | cons c r =>
    unfold cutM
    simp only
    split
    · rename_i h; rw [h]; rfl
    · rfl
theorem readNum_inv {s r : Bs} {v : Int} (h : readNum s = some (v, r)) : s = itoa v ++ r ∧ -2147483648 ≤ v ∧ v ≤ 2147483647 := by
  unfold readNum at h
  have hfr := cutM_front s
  cases hq : cutM s with
  | mk neg s' =>
    rw [hq] at hfr
    simp only [hq] at h hfr
    have hf := spanD_front 11 s'
    cases neg with
    | true =>
      simp only [if_true] at h hfr
      split at h
      · rename_i hc
        obtain ⟨h1, h2, h3, h4⟩ := hc
        injection h with h
        injection h with hv hr
        obtain ⟨k1, k2⟩ := decDigits_canon _ h1 (spanD_dig _ _) (h2.elim .inl (fun h => .inr h.1))
        have h48 : (spanD 11 s').head? ≠ some 48 := by
          rcases h2 with h2 | h2
          · exact h2
          · cases h2.2
        have := k2 h48
        refine ⟨?_, by omega, by omega⟩
        rw [itoa_min (by omega), show v.natAbs = valD 0 (spanD 11 s') by omega, k1, ← hr, List.cons_append, ← hf]
        exact hfr
      · cases h
    | false =>
      simp only [Bool.false_eq_true, if_false] at h hfr
      split at h
      · rename_i hc
        obtain ⟨h1, h2, h3, h4⟩ := hc
        injection h with h
        injection h with hv hr
        obtain ⟨k1, k2⟩ := decDigits_canon _ h1 (spanD_dig _ _) (h2.elim .inl (fun h => .inr h.1))
        refine ⟨?_, by omega, by omega⟩
        rw [itoa_pos (by omega), show v.toNat = valD 0 (spanD 11 s') by omega, k1, ← hr, ← hf]
        exact hfr
      · cases h
theorem readNum_text {v : Int} {r : Bs} (h0 : -2147483648 ≤ v) (h1 : v ≤ 2147483647) (hg : goodB r) : readNum (itoa v ++ r) = some (v, r) := by
  unfold readNum
  by_cases h : v < 0
  · have e : cutM (itoa v ++ r) = (true, decDigits v.natAbs ++ r) := by rw [itoa_min h]; rfl
    have hl := decDigits_len 9 v.natAbs (by omega)
    have hs := spanD_all 11 _ r (decDigits_all v.natAbs) (by omega) hg
    simp only [e, hs, decDigits_val, if_true]
    rw [if_pos ⟨decDigits_ne _, .inl (decDigits_head _ (by omega)), by omega, by omega⟩]
    simp
    omega
  · have e : cutM (itoa v ++ r) = (false, decDigits v.toNat ++ r) := by
      rw [itoa_pos (by omega)]
      cases hq : decDigits v.toNat with
      | nil => exact absurd hq (decDigits_ne _)
      | cons c x =>
        have hc := decDigits_all v.toNat c (by rw [hq]; simp)
        rw [List.cons_append]
        unfold cutM
        simp only
        rw [if_neg]
        intro h45
        rw [h45] at hc
        cases hc
    have hl := decDigits_len 9 v.toNat (by omega)
    have hs := spanD_all 11 _ r (decDigits_all v.toNat) (by omega) hg
    simp only [e, hs, decDigits_val, Bool.false_eq_true, if_false]
    have h2 : (decDigits v.toNat).head? ≠ some 48 ∨ (decDigits v.toNat).length = 1 ∧ True := by
      by_cases h0 : v.toNat = 0
      · right; rw [h0, decDigits_one (by omega)]; exact ⟨rfl, trivial⟩
      · left; exact decDigits_head _ (by omega)
    rw [if_pos ⟨decDigits_ne _, by simpa using h2, by omega, by omega⟩]
    simp
    omega
end Go.Proofs.YtkpdofiflhjahaaDoor.Ps
