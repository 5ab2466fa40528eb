/- Values: what a type has, in plain Lean. -/
import Derived.Test.YtkpdofiflhjahaaDoorVn
namespace Go.Proofs.YtkpdofiflhjahaaDoor.Ps
set_option linter.unusedVariables false
open Go
def all2 {α β : Type} (f : α → β → Bool) : List α → List β → Bool
  | [], [] => true
  | a :: r, b :: s => f a b && all2 f r s
  | _, _ => false
theorem all2_len {α β : Type} (f : α → β → Bool) : ∀ (l : List α) (s : List β), l.length ≠ s.length → all2 f l s = false
  | [], [], h => absurd rfl h
  | [], _ :: _, _ => rfl
  | _ :: _, [], _ => rfl
  | a :: r, b :: s, h => by rw [all2, all2_len f r s (by simpa using h), Bool.and_false]
def hasT : Nat → T → W → Bool
  | 0, _, _ => false
  | n + 1, .mk k l, .mk k' m vs =>
    decide (k' = k) && (if k = 1 then (decide (m = 0) || decide (m = 1)) && vs.isEmpty
      else if k = 2 then (decide (-2147483648 ≤ m) && decide (m ≤ 2147483647)) && vs.isEmpty
      else if k = 3 then decide (m = 0) && all2 (hasT n) l vs
      else decide (m = 0) && decide (vs.length ≤ 32) && vs.all (hasT n (l.getD 0 (.mk 0 []))))
/-! ### shapes -/
mutual
def joinT : T → T → Option T
  | .mk k l, .mk k' l' => if k = 0 then some (.mk k' l') else if k' = 0 then some (.mk k l) else if k ≠ k' ∨ l.length ≠ l'.length then none else (joinTs l l').map (T.mk k)
def joinTs : List T → List T → Option (List T)
  | [], _ => some []
  | a :: r, [] => none
  | a :: r, b :: s => match joinT a b with
    | none => none
    | some x => (joinTs r s).map (x :: ·)
end
mutual
def closedT : T → T
  | .mk k l => if k = 0 then .mk 1 [] else .mk k (closedTs l)
def closedTs : List T → List T
  | [] => []
  | a :: r => closedT a :: closedTs r
end
def shapes (f : W → Option T) : List W → Option (List T)
  | [] => some []
  | v :: r => match f v with
    | none => none
    | some t => (shapes f r).map (t :: ·)
def meets (f : W → Option T) : List W → T → Option T
  | [], all => some all
  | v :: r, all => match f v with
    | none => none
    | some t => match joinT all t with
      | none => none
      | some x => meets f r x
def shapeW : Nat → W → Option T
  | 0, _ => none
  | n + 1, .mk k m vs =>
    if k = 1 ∨ k = 2 then (if hasT 1 (.mk k []) (.mk k m vs) then some (.mk k []) else none)
    else if k = 3 ∧ m = 0 ∧ 2 ≤ vs.length ∧ vs.length ≤ 4 then (shapes (shapeW n) vs).map (T.mk 3)
    else if k = 4 ∧ m = 0 ∧ vs.length ≤ 32 then (meets (shapeW n) vs (.mk 0 [])).map fun x => T.mk 4 [x]
    else none
def openW : Nat → W → Option T
  | 0, _ => none
  | n + 1, .mk k m vs =>
    if k = 1 ∨ k = 2 then (if hasT 1 (.mk k []) (.mk k m vs) then some (.mk k []) else none)
    else if k = 3 then (if m = 0 ∧ 2 ≤ vs.length ∧ vs.length ≤ 4 then (shapes (openW n) vs).map (T.mk 3) else none)
    else if k = 4 then (if m = 0 ∧ vs.length ≤ 32 ∧ n ≠ 0 then (meets (openW n) vs (.mk 0 [])).map fun x => T.mk 4 [x] else none)
    else none
def rightP (v : W) : Bool := match shapeW 40 v with
  | some t => deepT 40 (closedT t) && decide (v.size ≤ 1000)
  | none => false
def rightR (v : W) : Bool := decide (v.size ≤ 1000) && (openW 40 v).isSome

theorem closedTs_map : ∀ l : List T, closedTs l = l.map closedT
  | [] => by rw [closedTs]; rfl
  | a :: r => by rw [closedTs, closedTs_map r]; rfl
theorem deep_one {n : Nat} {t : T} (h : deepT n t = true) : deepT n (.mk 1 []) = true := by
  cases n with
  | zero => cases h
  | succ n => rfl
/-- A node that is no hole, closed. -/
theorem deep_closed (n : Nat) (k : Int) (l : List T) (hk : k ≠ 0) : deepT (n + 1) (closedT (.mk k l)) = (if k = 1 ∨ k = 2 then l.isEmpty
    else if k = 3 then decide (2 ≤ l.length) && decide (l.length ≤ 4) && l.all (fun t => deepT n (closedT t))
    else if k = 4 then decide (l.length = 1) && l.all (fun t => deepT n (closedT t)) else false) := by
  rw [closedT, if_neg hk, closedTs_map, deepT, List.length_map, List.all_map]
  congr 1
  cases l <;> rfl
theorem joinTs_len : ∀ (l l' r : List T), joinTs l l' = some r → r.length = l.length
  | [], _, r, h => by rw [joinTs] at h; cases h; rfl
  | a :: l, [], r, h => by rw [joinTs] at h; cases h
  | a :: l, b :: l', r, h => by
    rw [joinTs] at h
    split at h
    · cases h
    · rw [Option.map_eq_some_iff] at h
      obtain ⟨r', h1, rfl⟩ := h
      simp [joinTs_len l l' r' h1]
mutual
theorem joinT_deep : ∀ (a b c : T) (n : Nat), joinT a b = some c → deepT n (closedT c) = (deepT n (closedT a) && deepT n (closedT b))
  | .mk k l, .mk k' l', c, n, h => by
    rw [joinT] at h
    have hole : ∀ (x : List T), deepT n (closedT (.mk 0 x)) = decide (1 ≤ n) := fun x => by
      rw [closedT, if_pos rfl]
      cases n <;> simp [deepT]
    have le : ∀ t : T, deepT n t = true → 1 ≤ n := fun t ht => by cases n with
      | zero => cases ht
      | succ n => omega
    split at h
    · rename_i hk
      cases h
      rw [hk, hole]
      cases hd : deepT n (closedT (.mk k' l')) with
      | false => simp
      | true => rw [decide_eq_true (le _ hd)]; rfl
    · split at h
      · rename_i hk
        cases h
        rw [hk, hole]
        cases hd : deepT n (closedT (.mk k l)) with
        | false => simp
        | true => rw [decide_eq_true (le _ hd)]; rfl
      · split at h
        · cases h
        · rename_i h1 h2 h3
          have h4 : k = k' ∧ l.length = l'.length := by
            refine ⟨?_, ?_⟩
            · exact Decidable.byContradiction fun q => h3 (.inl q)
            · exact Decidable.byContradiction fun q => h3 (.inr q)
          obtain ⟨rfl, hl⟩ := h4
          rw [Option.map_eq_some_iff] at h
          obtain ⟨r, hr, rfl⟩ := h
          cases n with
          | zero => rfl
          | succ n =>
            rw [deep_closed n k r h1, deep_closed n k l h1, deep_closed n k l' h1, joinTs_len _ _ _ hr, ← hl, joinTs_deep l l' r n hr hl]
            have hrl := joinTs_len _ _ _ hr
            have hre : r.isEmpty = l.isEmpty := by
              rw [Bool.eq_iff_iff, List.isEmpty_iff_length_eq_zero, List.isEmpty_iff_length_eq_zero]; omega
            have hle : l'.isEmpty = l.isEmpty := by
              rw [Bool.eq_iff_iff, List.isEmpty_iff_length_eq_zero, List.isEmpty_iff_length_eq_zero]; omega
            rw [hre, hle]
            by_cases q1 : k = 1 ∨ k = 2
            · simp only [if_pos q1, Bool.and_self]
            · by_cases q3 : k = 3
              · simp only [if_neg q1, if_pos q3]
                cases decide (2 ≤ l.length) <;> cases decide (l.length ≤ 4) <;> simp
              · by_cases q4 : k = 4
                · simp only [if_neg q1, if_neg q3, if_pos q4]
                  cases decide (l.length = 1) <;> simp
                · simp only [if_neg q1, if_neg q3, if_neg q4, Bool.and_self]
theorem joinTs_deep : ∀ (l l' r : List T) (n : Nat), joinTs l l' = some r → l.length = l'.length → r.all (fun t => deepT n (closedT t)) = (l.all (fun t => deepT n (closedT t)) && l'.all (fun t => deepT n (closedT t)))
  | [], [], r, n, h, _ => by rw [joinTs] at h; cases h; rfl
  | [], _ :: _, r, n, h, hl => by simp at hl
  | a :: l, [], r, n, h, hl => by simp at hl
  | a :: l, b :: l', r, n, h, hl => by
    rw [joinTs] at h
    split at h
    · cases h
    · rename_i x hx
      rw [Option.map_eq_some_iff] at h
      obtain ⟨r', h1, rfl⟩ := h
      rw [List.all_cons, List.all_cons, List.all_cons, joinT_deep a b x n hx, joinTs_deep l l' r' n h1 (by simpa using hl)]
      cases deepT n (closedT a) <;> cases deepT n (closedT b) <;> cases l.all (fun t => deepT n (closedT t)) <;> rfl
end
theorem shapes_len {f : W → Option T} : ∀ {l : List W} {r : List T}, shapes f l = some r → r.length = l.length
  | [], r, h => by cases h; rfl
  | v :: l, r, h => by
    unfold shapes at h
    split at h
    · cases h
    · rw [Option.map_eq_some_iff] at h
      obtain ⟨r', h1, rfl⟩ := h
      simp [shapes_len h1]
/-- What is open at n is the shape that is deep at n. -/
theorem openW_eq : ∀ (n : Nat) (v : W), openW n v = (shapeW n v).filter fun t => deepT n (closedT t)
  | 0, _ => rfl
  | n + 1, .mk k m vs => by
    have ih := openW_eq n
    have hsh : ∀ l : List W, shapes (openW n) l = (shapes (shapeW n) l).filter fun r => r.all fun t => deepT n (closedT t) := by
      intro l
      induction l with
      | nil => rfl
      | cons v l ih2 =>
        unfold shapes
        rw [ih v, ih2]
        cases shapeW n v with
        | none => rfl
        | some t =>
          simp only [Option.filter_some]
          cases hd : deepT n (closedT t) with
          | false =>
            cases shapes (shapeW n) l with
            | none => rfl
            | some r => simp [Option.filter_some, hd]
          | true =>
            cases shapes (shapeW n) l with
            | none => rfl
            | some r =>
              simp only [Option.filter_some, if_true, Option.map_some, List.all_cons, hd, Bool.true_and]
              split <;> simp_all
    have hme : ∀ (l : List W) (a : T), deepT n (closedT a) = true → meets (openW n) l a = (meets (shapeW n) l a).filter fun t => deepT n (closedT t) := by
      intro l
      induction l with
      | nil => intro a ha; simp [meets, Option.filter_some, ha]
      | cons v l ih2 =>
        intro a ha
        have grow : ∀ (l : List W) (x y : T), deepT n (closedT x) = false → meets (shapeW n) l x = some y → deepT n (closedT y) = false := by
          intro l
          induction l with
          | nil => intro x y hx h; cases h; exact hx
          | cons v l ih3 =>
            intro x y hx h
            unfold meets at h
            split at h
            · cases h
            · split at h
              · cases h
              · rename_i z hz
                exact ih3 _ _ (by rw [joinT_deep _ _ _ n hz, hx]; rfl) h
        unfold meets
        rw [ih v]
        cases shapeW n v with
        | none => rfl
        | some t =>
          simp only [Option.filter_some]
          cases hd : deepT n (closedT t) with
          | false =>
            simp only [Bool.false_eq_true, if_false]
            cases hj : joinT a t with
            | none => rfl
            | some x =>
              simp only
              cases hm : meets (shapeW n) l x with
              | none => rfl
              | some y => rw [Option.filter_some, grow l x y (by rw [joinT_deep _ _ _ n hj, hd, Bool.and_false]) hm]; rfl
          | true =>
            simp only [if_true]
            cases hj : joinT a t with
            | none => rfl
            | some x => exact ih2 x (by rw [joinT_deep _ _ _ n hj, ha, hd]; rfl)
    unfold openW shapeW
    by_cases h12 : k = 1 ∨ k = 2
    · rw [if_pos h12, if_pos h12]
      split
      · rename_i hh
        have hk : k ≠ 0 := by omega
        rw [Option.filter_some, deep_closed n k [] hk, if_pos h12]
        rfl
      · rfl
    · rw [if_neg h12, if_neg h12]
      by_cases h3 : k = 3
      · rw [if_pos h3]
        by_cases hc : m = 0 ∧ 2 ≤ vs.length ∧ vs.length ≤ 4
        · rw [if_pos hc, if_pos ⟨h3, hc⟩, hsh]
          cases hs : shapes (shapeW n) vs with
          | none => rfl
          | some r =>
            have hl := shapes_len hs
            rw [Option.map_some, Option.filter_some, Option.filter_some, deep_closed n 3 r (by decide), hl]
            simp only [show ¬ ((3 : Int) = 1 ∨ (3 : Int) = 2) by decide, if_false, if_true, decide_eq_true hc.2.1, decide_eq_true hc.2.2, Bool.true_and]
            split <;> rfl
        · rw [if_neg hc, if_neg (show ¬ (k = 3 ∧ m = 0 ∧ 2 ≤ vs.length ∧ vs.length ≤ 4) from fun q => hc q.2), if_neg (show ¬ (k = 4 ∧ m = 0 ∧ vs.length ≤ 32) from fun q => by omega)]
          rfl
      · rw [if_neg h3, if_neg (show ¬ (k = 3 ∧ m = 0 ∧ 2 ≤ vs.length ∧ vs.length ≤ 4) from fun q => h3 q.1)]
        by_cases h4 : k = 4
        · rw [if_pos h4]
          by_cases hc : m = 0 ∧ vs.length ≤ 32
          · rw [if_pos (show k = 4 ∧ m = 0 ∧ vs.length ≤ 32 from ⟨h4, hc⟩)]
            by_cases hn : n = 0
            · rw [if_neg (fun q => q.2.2 hn)]
              subst hn
              cases hm : meets (shapeW 0) vs (.mk 0 []) with
              | none => rfl
              | some x =>
                rw [Option.map_some, Option.filter_some, deep_closed 0 4 [x] (by decide)]
                rfl
            · rw [if_pos ⟨hc.1, hc.2, hn⟩, hme vs (.mk 0 []) (by
                rw [closedT, if_pos rfl]
                obtain ⟨n', rfl⟩ : ∃ n', n = n' + 1 := ⟨n - 1, by omega⟩
                rfl)]
              cases hm : meets (shapeW n) vs (.mk 0 []) with
              | none => rfl
              | some x =>
                rw [Option.map_some, Option.filter_some, Option.filter_some, deep_closed n 4 [x] (by decide)]
                simp only [show ¬ ((4 : Int) = 1 ∨ (4 : Int) = 2) by decide, show ¬ ((4 : Int) = 3) by decide, if_false, if_true, List.length_cons, List.length_nil, List.all_cons, List.all_nil, Bool.and_true]
                split <;> simp_all
          · rw [if_neg (fun q => hc ⟨q.1, q.2.1⟩), if_neg (show ¬ (k = 4 ∧ m = 0 ∧ vs.length ≤ 32) from fun q => hc q.2)]
            rfl
        · rw [if_neg h4, if_neg (show ¬ (k = 4 ∧ m = 0 ∧ vs.length ≤ 32) from fun q => h4 q.1)]
          rfl
theorem right_eq (v : W) : rightP v = rightR v := by
  unfold rightP rightR
  rw [openW_eq]
  cases shapeW 40 v with
  | none => simp
  | some t =>
    rw [Option.filter_some]
    cases hd : deepT 40 (closedT t) <;> simp [hd]
end Go.Proofs.YtkpdofiflhjahaaDoor.Ps
