/- The search behind always ends; what the table of Best holds; plain facts, no program in sight. -/
import Derived.Test.YtnnaakinchophaaOrdG
namespace Go.Proofs.Ytnnaakinchophaa.Ord
set_option linter.unusedVariables false
open Go.RowKit Go.Proofs.YtnnaakinchophaaW.PrintWords

/-- How many bits are not set. -/
def cz (X : Nat) : Nat := ((List.range 16).filter fun i => !X.testBit i).length
theorem cz_sb (X b : Nat) (hb : b < 16) (h : X.testBit b = false) : cz (sb X b) + 1 ≤ cz X := by
  unfold cz
  have h1 : (List.range 16).filter (fun i => !(sb X b).testBit i) = ((List.range 16).filter fun i => !X.testBit i).erase b := by
    rw [List.Nodup.erase_eq_filter (List.Pairwise.filter _ List.nodup_range), List.filter_filter]
    apply List.filter_congr
    intro i _
    rw [sb_bit]
    by_cases hi : i = b
    · subst hi; simp
    · simp [hi]
  have hm : b ∈ (List.range 16).filter fun i => !X.testBit i := List.mem_filter.2 ⟨List.mem_range.2 hb, by rw [h]; rfl⟩
  rw [h1, List.length_erase_of_mem hm]
  have := List.length_pos_of_mem hm
  omega
theorem bhS_meas (G : Nat → Nat) (out at_ : Nat) (s : Nat × List Int) (b : Nat) (hb : b < 16) : (bhS G out at_ s b).2.length + cz (bhS G out at_ s b).1 ≤ s.2.length + cz s.1 := by
  unfold bhS
  split
  · rename_i h
    have h2 : s.1.testBit b = false := by
      have := (Bool.and_eq_true _ _ ▸ h).2
      simpa using this
    have := cz_sb s.1 b hb h2
    split
    · simp only [List.length_append, List.length_cons, List.length_nil]; omega
    · show s.2.length + cz (sb s.1 b) ≤ _
      omega
  · omega
theorem foldl_meas (G : Nat → Nat) (out at_ : Nat) : ∀ (l : List Nat) (s : Nat × List Int), (∀ b ∈ l, b < 16) → (l.foldl (bhS G out at_) s).2.length + cz (l.foldl (bhS G out at_) s).1 ≤ s.2.length + cz s.1
  | [], s, _ => Nat.le_refl _
  | b :: r, s, h => by
    rw [List.foldl_cons]
    exact Nat.le_trans (foldl_meas G out at_ r _ (fun c hc => h c (List.mem_cons_of_mem _ hc))) (bhS_meas G out at_ s b (h b List.mem_cons_self))
theorem bhI_meas (G : Nat → Nat) (out at_ : Nat) (s : Nat × List Int) : (bhI G out at_ 0 s).2.length + cz (bhI G out at_ 0 s).1 ≤ s.2.length + cz s.1 :=
  foldl_meas G out at_ _ s (fun b hb => by have := (List.mem_range'_1.1 hb).2; omega)
theorem bhL_some (G : Nat → Nat) (out : Nat) : ∀ (k seen : Nat) (st : List Int), st.length + cz seen < k → ∃ F, bhL G out k seen st = some F
  | 0, _, _, h => absurd h (Nat.not_lt_zero _)
  | k + 1, seen, st, h => by
    unfold bhL
    by_cases hs : st = []
    · exact ⟨seen, if_pos hs⟩
    · rw [if_neg hs]
      refine bhL_some G out k _ _ ?_
      have := bhI_meas G out (st.getD (st.length - 1) 0).toNat (seen, st.take (st.length - 1))
      have hp : 0 < st.length := List.length_pos_iff.2 hs
      have hl : (st.take (st.length - 1)).length = st.length - 1 := by rw [List.length_take]; omega
      simp only [hl] at this
      omega
theorem cz_le (v : Nat) (hv : v < 16) : cz (2 ^ v) ≤ 15 := by
  have h := cz_sb 0 v hv (Nat.zero_testBit v)
  have h0 : cz 0 = 16 := by decide
  have e : sb 0 v = 2 ^ v := by unfold sb; rw [Nat.zero_or]
  rw [e, h0] at h
  omega
theorem bhF_some (G : Nat → Nat) (v out : Nat) (hv : v < 16) : ∃ F, bhF G v out = some F := by
  refine bhL_some G out 17 _ _ ?_
  have := cz_le v hv
  simp only [List.length_cons, List.length_nil]
  omega
/-- Best's contract. -/
theorem best_all (n : Int) (A : Option Addr) (c : Nat) (l : List (List Int)) (r1 : List Int) (r2 r3 : Int) (w : World) (hr : Kd.C kl w A l.length l) (hc : l.length ≤ c) (h : bestF n l = some (r1, r2, r3)) :
    Calls Try.prog 15 #[.int .i64 n, .slice A l.length c] w fun e w' => ∃ v0, e = .returned (.tuple #[v0, .int .i64 r2, .int .i64 r3]) ∧ Kd.R (Kd.int .i64) 3 w' w.heap.size (fun _ => True) v0 r1 ∧ Below w.heap.size w w' :=
  best_calls n A c l r1 r2 r3 w hr hc (fun G _ v out hv _ => bhF_some G v out hv) h

/-! ### The table -/
theorem sb_ne {X v : Nat} (h : X.testBit v = false) : X < sb X v := by
  have h1 : X ≤ sb X v := Nat.left_le_or
  have h2 : X ≠ sb X v := by
    intro e
    have := sb_bit X v v
    rw [← e, h] at this
    simp at this
  omega
/-- One entry, from those above it. -/
def entS (G : Nat → Nat) (S : Nat) (need : List Int) (acc : Int) (v : Nat) : Int := if S.testBit v then acc else mn acc (mx (bhN G v S : Int) (need.getD (sb S v) 0))
theorem getD_set_ne {l : List Int} {i j : Nat} (h : i ≠ j) (x : Int) : (l.set i x).getD j 0 = l.getD j 0 := by
  rw [List.getD_eq_getElem?_getD, List.getD_eq_getElem?_getD, List.getElem?_set_ne h]
theorem getD_set_eq {l : List Int} {i : Nat} (h : i < l.length) (x : Int) : (l.set i x).getD i 0 = x := by
  rw [List.getD_eq_getElem?_getD, List.getElem?_set_self h]
  rfl
theorem nI_fold (G : Nat → Nat) (S : Nat) (need : List Int) (hS : S < need.length) : ∀ (vs : List Nat) (acc : Int), vs.foldl (nS G S) (need.set S acc) = need.set S (vs.foldl (entS G S need) acc)
  | [], _ => rfl
  | v :: r, acc => by
    rw [List.foldl_cons, List.foldl_cons]
    have e : nS G S (need.set S acc) v = need.set S (entS G S need acc v) := by
      unfold nS entS
      cases h : S.testBit v with
      | true => simp
      | false =>
        simp only [Bool.false_eq_true, if_false]
        rw [getD_set_eq hS, getD_set_ne (Nat.ne_of_lt (sb_ne h)), List.set_set]
    rw [e]
    exact nI_fold G S need hS r _
/-- An entry is what those above it say. -/
def Ent (G : Nat → Nat) (n : Nat) (need : List Int) (S : Nat) : Prop := need.getD S 0 = (List.range n).foldl (entS G S need) (n : Int)
theorem entS_congr (G : Nat → Nat) (S : Nat) (a b : List Int) (h : ∀ j, S < j → a.getD j 0 = b.getD j 0) : ∀ (vs : List Nat) (acc : Int), vs.foldl (entS G S a) acc = vs.foldl (entS G S b) acc
  | [], _ => rfl
  | v :: r, acc => by
    rw [List.foldl_cons, List.foldl_cons]
    have e : entS G S a acc v = entS G S b acc v := by
      unfold entS
      cases ht : S.testBit v with
      | true => rfl
      | false => simp only [Bool.false_eq_true, if_false]; rw [h _ (sb_ne ht)]
    rw [e]
    exact entS_congr G S a b h r _
theorem nO_spec (G : Nat → Nat) (n : Nat) : ∀ (m : Nat) (need : List Int), m ≤ need.length → (nO G n m need).length = need.length ∧ (∀ j, m ≤ j → (nO G n m need).getD j 0 = need.getD j 0) ∧ ∀ S, S < m → Ent G n (nO G n m need) S
  | 0, need, _ => ⟨rfl, fun _ _ => rfl, fun S h => absurd h (Nat.not_lt_zero _)⟩
  | m + 1, need, hm => by
    have e : nI G n m 0 (need.set m (n : Int)) = need.set m ((List.range n).foldl (entS G m need) (n : Int)) := by
      unfold nI
      rw [Nat.sub_zero, ← List.range_eq_range']
      exact nI_fold G m need (by omega) _ _
    unfold nO
    rw [e]
    obtain ⟨h1, h2, h3⟩ := nO_spec G n m (need.set m ((List.range n).foldl (entS G m need) (n : Int))) (by rw [List.length_set]; omega)
    refine ⟨by rw [h1, List.length_set], fun j hj => by rw [h2 j (by omega), getD_set_ne (by omega)], fun S hS => ?_⟩
    by_cases hSm : S = m
    · subst hSm
      unfold Ent
      rw [h2 S (Nat.le_refl _), getD_set_eq (by omega)]
      refine entS_congr G S _ _ (fun j hj => ?_) _ _
      rw [h2 j (by omega), getD_set_ne (by omega)]
    · exact h3 S (by omega)
theorem needF_len (G : Nat → Nat) (n : Nat) : (needF G n).length = 2 ^ n := by
  unfold needF
  rw [(nO_spec G n _ _ (by rw [List.length_replicate]; exact Nat.sub_le _ _)).1, List.length_replicate]
theorem needF_ent (G : Nat → Nat) (n S : Nat) (h : S < 2 ^ n - 1) : Ent G n (needF G n) S := (nO_spec G n _ _ (by rw [List.length_replicate]; exact Nat.sub_le _ _)).2.2 S h
theorem needF_full (G : Nat → Nat) (n : Nat) : (needF G n).getD (2 ^ n - 1) 0 = 0 := by
  unfold needF
  rw [(nO_spec G n _ _ (by rw [List.length_replicate]; exact Nat.sub_le _ _)).2.1 _ (Nat.le_refl _)]
  rw [List.getD_eq_getElem?_getD, List.getElem?_replicate]
  split <;> rfl
theorem entS_le (G : Nat → Nat) (S : Nat) (need : List Int) (acc : Int) (v : Nat) : entS G S need acc v ≤ acc := by
  unfold entS mn
  split
  · exact Int.le_refl _
  · split <;> omega
theorem foldl_le (G : Nat → Nat) (S : Nat) (need : List Int) : ∀ (vs : List Nat) (acc : Int), vs.foldl (entS G S need) acc ≤ acc
  | [], acc => Int.le_refl _
  | v :: r, acc => Int.le_trans (foldl_le G S need r _) (entS_le G S need acc v)
theorem foldl_le_at (G : Nat → Nat) (S : Nat) (need : List Int) (v : Nat) (hv : S.testBit v = false) : ∀ (vs : List Nat) (acc : Int), v ∈ vs → vs.foldl (entS G S need) acc ≤ mx (bhN G v S : Int) (need.getD (sb S v) 0)
  | [], _, h => by cases h
  | u :: r, acc, h => by
    rw [List.foldl_cons]
    rcases List.mem_cons.1 h with rfl | h
    · refine Int.le_trans (foldl_le G S need r _) ?_
      unfold entS
      rw [hv]
      simp only [Bool.false_eq_true, if_false]
      unfold mn
      split <;> omega
    · exact foldl_le_at G S need v hv r _ h
theorem foldl_ge (G : Nat → Nat) (S : Nat) (need : List Int) (x : Int) : ∀ (vs : List Nat) (acc : Int), x ≤ acc → (∀ v ∈ vs, S.testBit v = false → x ≤ mx (bhN G v S : Int) (need.getD (sb S v) 0)) → x ≤ vs.foldl (entS G S need) acc
  | [], _, h, _ => h
  | v :: r, acc, h, hv => by
    rw [List.foldl_cons]
    refine foldl_ge G S need x r _ ?_ (fun u hu => hv u (List.mem_cons_of_mem _ hu))
    unfold entS
    cases ht : S.testBit v with
    | true => exact h
    | false =>
      simp only [Bool.false_eq_true, if_false]
      have := hv v List.mem_cons_self ht
      unfold mn
      split <;> omega
end Go.Proofs.Ytnnaakinchophaa.Ord
