namespace Go.Proofs.YtkpdofiflhjahaaDoor.Ps

/-- A type of the language of chance, as a tree. -/
inductive T where
  | mk (k : Int) (l : List T)
/-- A value, as a tree. -/
inductive W where
  | mk (k n : Int) (l : List W)
def T.k : T → Int | .mk k _ => k
def T.l : T → List T | .mk _ l => l
def W.k : W → Int | .mk k _ _ => k
def W.n : W → Int | .mk _ n _ => n
def W.l : W → List W | .mk _ _ l => l

theorem T.ind {p : T → Prop} (h : ∀ k l, (∀ t ∈ l, p t) → p (.mk k l)) : ∀ t, p t
  | .mk k l => h k l (fun t _ => T.ind h t)
theorem W.ind {p : W → Prop} (h : ∀ k n l, (∀ t ∈ l, p t) → p (.mk k n l)) : ∀ t, p t
  | .mk k n l => h k n l (fun t _ => W.ind h t)
mutual
def T.size : T → Nat
  | .mk _ l => 1 + T.sizes l
def T.sizes : List T → Nat
  | [] => 0
  | t :: r => t.size + T.sizes r
end
mutual
def W.size : W → Nat
  | .mk _ _ l => 1 + W.sizes l
def W.sizes : List W → Nat
  | [] => 0
  | t :: r => t.size + W.sizes r
end
mutual
def T.beq : T → T → Bool
  | .mk k l, .mk k' l' => decide (k = k') && T.beqs l l'
def T.beqs : List T → List T → Bool
  | [], [] => true
  | a :: r, b :: s => T.beq a b && T.beqs r s
  | _, _ => false
end
mutual
theorem T.beq_iff : ∀ a b : T, T.beq a b = true ↔ a = b
  | .mk k l, .mk k' l' => by
    unfold T.beq
    rw [Bool.and_eq_true, decide_eq_true_iff, T.beqs_iff l l', T.mk.injEq]
theorem T.beqs_iff : ∀ a b : List T, T.beqs a b = true ↔ a = b
  | [], [] => by simp [T.beqs]
  | [], b :: s => by simp [T.beqs]
  | a :: r, [] => by simp [T.beqs]
  | a :: r, b :: s => by
    unfold T.beqs
    rw [Bool.and_eq_true, T.beq_iff a b, T.beqs_iff r s, List.cons.injEq]
end
mutual
def W.beq : W → W → Bool
  | .mk k n l, .mk k' n' l' => decide (k = k') && decide (n = n') && W.beqs l l'
def W.beqs : List W → List W → Bool
  | [], [] => true
  | a :: r, b :: s => W.beq a b && W.beqs r s
  | _, _ => false
end
mutual
theorem W.beq_iff : ∀ a b : W, W.beq a b = true ↔ a = b
  | .mk k n l, .mk k' n' l' => by
    unfold W.beq
    rw [Bool.and_eq_true, Bool.and_eq_true, decide_eq_true_iff, decide_eq_true_iff, W.beqs_iff l l', W.mk.injEq, and_assoc]
theorem W.beqs_iff : ∀ a b : List W, W.beqs a b = true ↔ a = b
  | [], [] => by simp [W.beqs]
  | [], b :: s => by simp [W.beqs]
  | a :: r, [] => by simp [W.beqs]
  | a :: r, b :: s => by
    unfold W.beqs
    rw [Bool.and_eq_true, W.beq_iff a b, W.beqs_iff r s, List.cons.injEq]
end
/-! ### The order -/
def ordI (a b : Int) : Int := if a < b then -1 else if b < a then 1 else 0
mutual
def W.cmp : W → W → Int
  | .mk k n l, .mk k' n' l' => if ordI k k' ≠ 0 then ordI k k' else if ordI n n' ≠ 0 then ordI n n' else W.cmps l l'
def W.cmps : List W → List W → Int
  | [], [] => 0
  | [], _ :: _ => -1
  | _ :: _, [] => 1
  | a :: r, b :: s => if W.cmp a b ≠ 0 then W.cmp a b else W.cmps r s
end
theorem ordI_zero (a b : Int) : ordI a b = 0 ↔ a = b := by unfold ordI; split <;> (try split) <;> omega
theorem ordI_neg (a b : Int) : ordI b a = - ordI a b := by unfold ordI; split <;> (try split) <;> (try split) <;> omega
theorem ordI_val (a b : Int) : ordI a b = -1 ∧ a < b ∨ ordI a b = 0 ∧ a = b ∨ ordI a b = 1 ∧ b < a := by unfold ordI; split <;> (try split) <;> omega
mutual
theorem W.cmp_val : ∀ a b : W, W.cmp a b = -1 ∨ W.cmp a b = 0 ∨ W.cmp a b = 1
  | .mk k n l, .mk k' n' l' => by
    unfold W.cmp
    rcases ordI_val k k' with h | h | h <;> rcases ordI_val n n' with h' | h' | h' <;> have := W.cmps_val l l' <;> split <;> (try split) <;> omega
theorem W.cmps_val : ∀ a b : List W, W.cmps a b = -1 ∨ W.cmps a b = 0 ∨ W.cmps a b = 1
  | [], [] => by simp [W.cmps]
  | [], b :: s => by simp [W.cmps]
  | a :: r, [] => by simp [W.cmps]
  | a :: r, b :: s => by
    unfold W.cmps
    have := W.cmp_val a b
    have := W.cmps_val r s
    split <;> omega
end
mutual
theorem W.cmp_zero : ∀ a b : W, W.cmp a b = 0 ↔ a = b
  | .mk k n l, .mk k' n' l' => by
    unfold W.cmp
    rw [W.mk.injEq, ← W.cmps_zero l l', ← ordI_zero k k', ← ordI_zero n n']
    split
    · constructor <;> intro h <;> simp_all
    · split
      · constructor <;> intro h <;> simp_all
      · constructor <;> intro h <;> simp_all
theorem W.cmps_zero : ∀ a b : List W, W.cmps a b = 0 ↔ a = b
  | [], [] => by simp [W.cmps]
  | [], b :: s => by simp [W.cmps]
  | a :: r, [] => by simp [W.cmps]
  | a :: r, b :: s => by
    unfold W.cmps
    rw [List.cons.injEq, ← W.cmps_zero r s, ← W.cmp_zero a b]
    split
    · constructor <;> intro h <;> simp_all
    · constructor <;> intro h <;> simp_all
end
mutual
theorem W.cmp_neg : ∀ a b : W, W.cmp b a = - W.cmp a b
  | .mk k n l, .mk k' n' l' => by
    unfold W.cmp
    rw [W.cmps_neg l l', ordI_neg k k', ordI_neg n n']
    have := ordI_val k k'
    have := ordI_val n n'
    split <;> split <;> (try split) <;> (try split) <;> omega
theorem W.cmps_neg : ∀ a b : List W, W.cmps b a = - W.cmps a b
  | [], [] => by simp [W.cmps]
  | [], b :: s => by simp [W.cmps]
  | a :: r, [] => by simp [W.cmps]
  | a :: r, b :: s => by
    unfold W.cmps
    rw [W.cmps_neg r s, W.cmp_neg a b]
    split <;> split <;> omega
end
/-- What is at most, and at most, is at most; and less where one of them is less. -/
def trans3 (x y z : Int) : Prop := (x ≤ 0 → y ≤ 0 → z ≤ 0) ∧ (x < 0 → y ≤ 0 → z < 0) ∧ (x ≤ 0 → y < 0 → z < 0)
theorem ordI_trans (a b c : Int) : trans3 (ordI a b) (ordI b c) (ordI a c) := by
  have := ordI_val a b
  have := ordI_val b c
  have := ordI_val a c
  unfold trans3
  omega
theorem trans3_lex {x y z x' y' z' : Int} (h : trans3 x y z) (hx : x = 0 → y = 0 → z = 0) (h' : x = 0 → y = 0 → trans3 x' y' z') :
    trans3 (if x ≠ 0 then x else x') (if y ≠ 0 then y else y') (if z ≠ 0 then z else z') := by
  unfold trans3 at *
  by_cases h1 : x = 0
  · by_cases h2 : y = 0
    · have h3 := hx h1 h2
      have h4 := h' h1 h2
      rw [if_neg (fun k => k h1), if_neg (fun k => k h2), if_neg (fun k => k h3)]
      exact h4
    · rw [if_neg (fun k => k h1), if_pos h2]
      split <;> omega
  · rw [if_pos h1]
    split <;> split <;> omega
mutual
theorem W.cmp_trans : ∀ a b c : W, trans3 (W.cmp a b) (W.cmp b c) (W.cmp a c)
  | .mk k n l, .mk k' n' l', .mk k2 n2 l2 => by
    unfold W.cmp
    refine trans3_lex (ordI_trans _ _ _) (fun h h' => ?_) (fun _ _ => trans3_lex (ordI_trans _ _ _) (fun h h' => ?_) (fun _ _ => W.cmps_trans l l' l2))
    · rw [ordI_zero] at *; exact h.trans h'
    · rw [ordI_zero] at *; exact h.trans h'
theorem W.cmps_trans : ∀ a b c : List W, trans3 (W.cmps a b) (W.cmps b c) (W.cmps a c)
  | [], [], [] => by simp [W.cmps, trans3]
  | [], [], c :: t => by simp [W.cmps, trans3]
  | [], b :: s, [] => by simp [W.cmps, trans3]
  | [], b :: s, c :: t => by simp [W.cmps, trans3]
  | a :: r, [], [] => by simp [W.cmps, trans3]
  | a :: r, [], c :: t => by simp [W.cmps, trans3]
  | a :: r, b :: s, [] => by simp [W.cmps, trans3]
  | a :: r, b :: s, c :: t => by
    unfold W.cmps
    refine trans3_lex (W.cmp_trans a b c) (fun h h' => ?_) (fun _ _ => W.cmps_trans r s t)
    rw [W.cmp_zero] at *; exact h.trans h'
end
theorem W.cmps_take (l : List W) : ∀ (n : Nat), n < l.length → W.cmps (l.take n) l = -1 := by
  induction l with
  | nil => intro n h; simp at h
  | cons a r ih =>
    intro n h
    cases n with
    | zero => simp [W.cmps]
    | succ n =>
      rw [List.take_succ_cons]
      unfold W.cmps
      rw [if_neg (by rw [(W.cmp_zero a a).2 rfl]; simp), ih n (by simpa using h)]
theorem W.cmps_front (l : List W) (a b : List W) : W.cmps (l ++ a) (l ++ b) = W.cmps a b := by
  induction l with
  | nil => rfl
  | cons x r ih =>
    rw [List.cons_append, List.cons_append, W.cmps, if_neg (by rw [(W.cmp_zero x x).2 rfl]; simp), ih]
theorem W.cmps_one (a b : W) : W.cmps [a] [b] = W.cmp a b := by
  unfold W.cmps
  split
  · rfl
  · rename_i h; simp only [ne_eq, Decidable.not_not] at h; rw [h]; rfl
end Go.Proofs.YtkpdofiflhjahaaDoor.Ps
