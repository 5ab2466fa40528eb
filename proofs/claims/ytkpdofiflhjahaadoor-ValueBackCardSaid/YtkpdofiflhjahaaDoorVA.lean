/- Texts joined. -/
import Derived.Lib.Join
import Derived.Lib.ItoaNum
import Derived.Lib.AtoiAll
namespace Go.Proofs.YtkpdofiflhjahaaDoor.Ps
section

/-- A type of the language of chance, as a tree. -/
inductive T where
  | mk (k : Int) (l : List T)
/-- A value, as a tree. -/
inductive W where
  | mk (k n : Int) (l : List W)
def T.k : T → Int | .mk k _ => k
def T.l : T → List T | .mk _ l => l
def W.k : W → Int | .mk k _ _ => k
def W.n : W → Int | .mk _ n _ => n
def W.l : W → List W | .mk _ _ l => l

theorem T.ind {p : T → Prop} (h : ∀ k l, (∀ t ∈ l, p t) → p (.mk k l)) : ∀ t, p t
  | .mk k l => h k l (fun t _ => T.ind h t)
theorem W.ind {p : W → Prop} (h : ∀ k n l, (∀ t ∈ l, p t) → p (.mk k n l)) : ∀ t, p t
  | .mk k n l => h k n l (fun t _ => W.ind h t)
mutual
def T.size : T → Nat
  | .mk _ l => 1 + T.sizes l
def T.sizes : List T → Nat
  | [] => 0
  | t :: r => t.size + T.sizes r
end
mutual
def W.size : W → Nat
  | .mk _ _ l => 1 + W.sizes l
def W.sizes : List W → Nat
  | [] => 0
  | t :: r => t.size + W.sizes r
end
mutual
def T.beq : T → T → Bool
  | .mk k l, .mk k' l' => decide (k = k') && T.beqs l l'
def T.beqs : List T → List T → Bool
  | [], [] => true
  | a :: r, b :: s => T.beq a b && T.beqs r s
  | _, _ => false
end
mutual
theorem T.beq_iff : ∀ a b : T, T.beq a b = true ↔ a = b
  | .mk k l, .mk k' l' => by
    unfold T.beq
    rw [Bool.and_eq_true, decide_eq_true_iff, T.beqs_iff l l', T.mk.injEq]
theorem T.beqs_iff : ∀ a b : List T, T.beqs a b = true ↔ a = b
  | [], [] => by simp [T.beqs]
  | [], b :: s => by simp [T.beqs]
  | a :: r, [] => by simp [T.beqs]
  | a :: r, b :: s => by
    unfold T.beqs
    rw [Bool.and_eq_true, T.beq_iff a b, T.beqs_iff r s, List.cons.injEq]
end
mutual
def W.beq : W → W → Bool
  | .mk k n l, .mk k' n' l' => decide (k = k') && decide (n = n') && W.beqs l l'
def W.beqs : List W → List W → Bool
  | [], [] => true
  | a :: r, b :: s => W.beq a b && W.beqs r s
  | _, _ => false
end
mutual
theorem W.beq_iff : ∀ a b : W, W.beq a b = true ↔ a = b
  | .mk k n l, .mk k' n' l' => by
    unfold W.beq
    rw [Bool.and_eq_true, Bool.and_eq_true, decide_eq_true_iff, decide_eq_true_iff, W.beqs_iff l l', W.mk.injEq, and_assoc]
theorem W.beqs_iff : ∀ a b : List W, W.beqs a b = true ↔ a = b
  | [], [] => by simp [W.beqs]
  | [], b :: s => by simp [W.beqs]
  | a :: r, [] => by simp [W.beqs]
  | a :: r, b :: s => by
    unfold W.beqs
    rw [Bool.and_eq_true, W.beq_iff a b, W.beqs_iff r s, List.cons.injEq]
end
/-! ### The order -/
def ordI (a b : Int) : Int := if a < b then -1 else if b < a then 1 else 0
mutual
def W.cmp : W → W → Int
  | .mk k n l, .mk k' n' l' => if ordI k k' ≠ 0 then ordI k k' else if ordI n n' ≠ 0 then ordI n n' else W.cmps l l'
def W.cmps : List W → List W → Int
  | [], [] => 0
  | [], _ :: _ => -1
  | _ :: _, [] => 1
  | a :: r, b :: s => if W.cmp a b ≠ 0 then W.cmp a b else W.cmps r s
end
theorem ordI_zero (a b : Int) : ordI a b = 0 ↔ a = b := by unfold ordI; split <;> (try split) <;> omega
theorem ordI_neg (a b : Int) : ordI b a = - ordI a b := by unfold ordI; split <;> (try split) <;> (try split) <;> omega
theorem ordI_val (a b : Int) : ordI a b = -1 ∧ a < b ∨ ordI a b = 0 ∧ a = b ∨ ordI a b = 1 ∧ b < a := by unfold ordI; split <;> (try split) <;> omega
mutual
theorem W.cmp_val : ∀ a b : W, W.cmp a b = -1 ∨ W.cmp a b = 0 ∨ W.cmp a b = 1
  | .mk k n l, .mk k' n' l' => by
    unfold W.cmp
    rcases ordI_val k k' with h | h | h <;> rcases ordI_val n n' with h' | h' | h' <;> have := W.cmps_val l l' <;> split <;> (try split) <;> omega
theorem W.cmps_val : ∀ a b : List W, W.cmps a b = -1 ∨ W.cmps a b = 0 ∨ W.cmps a b = 1
  | [], [] => by simp [W.cmps]
  | [], b :: s => by simp [W.cmps]
  | a :: r, [] => by simp [W.cmps]
  | a :: r, b :: s => by
    unfold W.cmps
    have := W.cmp_val a b
    have := W.cmps_val r s
    split <;> omega
end
mutual
theorem W.cmp_zero : ∀ a b : W, W.cmp a b = 0 ↔ a = b
  | .mk k n l, .mk k' n' l' => by
    unfold W.cmp
    rw [W.mk.injEq, ← W.cmps_zero l l', ← ordI_zero k k', ← ordI_zero n n']
    split
    · constructor <;> intro h <;> simp_all
    · split
      · constructor <;> intro h <;> simp_all
      · constructor <;> intro h <;> simp_all
theorem W.cmps_zero : ∀ a b : List W, W.cmps a b = 0 ↔ a = b
  | [], [] => by simp [W.cmps]
  | [], b :: s => by simp [W.cmps]
  | a :: r, [] => by simp [W.cmps]
  | a :: r, b :: s => by
    unfold W.cmps
    rw [List.cons.injEq, ← W.cmps_zero r s, ← W.cmp_zero a b]
    split
    · constructor <;> intro h <;> simp_all
    · constructor <;> intro h <;> simp_all
end
mutual
theorem W.cmp_neg : ∀ a b : W, W.cmp b a = - W.cmp a b
  | .mk k n l, .mk k' n' l' => by
    unfold W.cmp
    rw [W.cmps_neg l l', ordI_neg k k', ordI_neg n n']
    have := ordI_val k k'
    have := ordI_val n n'
    split <;> split <;> (try split) <;> (try split) <;> omega
theorem W.cmps_neg : ∀ a b : List W, W.cmps b a = - W.cmps a b
  | [], [] => by simp [W.cmps]
  | [], b :: s => by simp [W.cmps]
  | a :: r, [] => by simp [W.cmps]
  | a :: r, b :: s => by
    unfold W.cmps
    rw [W.cmps_neg r s, W.cmp_neg a b]
    split <;> split <;> omega
end
/-- What is at most, and at most, is at most; and less where one of them is less. -/
def trans3 (x y z : Int) : Prop := (x ≤ 0 → y ≤ 0 → z ≤ 0) ∧ (x < 0 → y ≤ 0 → z < 0) ∧ (x ≤ 0 → y < 0 → z < 0)
theorem ordI_trans (a b c : Int) : trans3 (ordI a b) (ordI b c) (ordI a c) := by
  have := ordI_val a b
  have := ordI_val b c
  have := ordI_val a c
  unfold trans3
  omega
theorem trans3_lex {x y z x' y' z' : Int} (h : trans3 x y z) (hx : x = 0 → y = 0 → z = 0) (h' : x = 0 → y = 0 → trans3 x' y' z') :
    trans3 (if x ≠ 0 then x else x') (if y ≠ 0 then y else y') (if z ≠ 0 then z else z') := by
  unfold trans3 at *
  by_cases h1 : x = 0
  · by_cases h2 : y = 0
    · have h3 := hx h1 h2
      have h4 := h' h1 h2
      rw [if_neg (fun k => k h1), if_neg (fun k => k h2), if_neg (fun k => k h3)]
      exact h4
    · rw [if_neg (fun k => k h1), if_pos h2]
      split <;> omega
  · rw [if_pos h1]
    split <;> split <;> omega
mutual
theorem W.cmp_trans : ∀ a b c : W, trans3 (W.cmp a b) (W.cmp b c) (W.cmp a c)
  | .mk k n l, .mk k' n' l', .mk k2 n2 l2 => by
    unfold W.cmp
    refine trans3_lex (ordI_trans _ _ _) (fun h h' => ?_) (fun _ _ => trans3_lex (ordI_trans _ _ _) (fun h h' => ?_) (fun _ _ => W.cmps_trans l l' l2))
    · rw [ordI_zero] at *; exact h.trans h'
    · rw [ordI_zero] at *; exact h.trans h'
theorem W.cmps_trans : ∀ a b c : List W, trans3 (W.cmps a b) (W.cmps b c) (W.cmps a c)
  | [], [], [] => by simp [W.cmps, trans3]
  | [], [], c :: t => by simp [W.cmps, trans3]
  | [], b :: s, [] => by simp [W.cmps, trans3]
  | [], b :: s, c :: t => by simp [W.cmps, trans3]
  | a :: r, [], [] => by simp [W.cmps, trans3]
  | a :: r, [], c :: t => by simp [W.cmps, trans3]
  | a :: r, b :: s, [] => by simp [W.cmps, trans3]
  | a :: r, b :: s, c :: t => by
    unfold W.cmps
    refine trans3_lex (W.cmp_trans a b c) (fun h h' => ?_) (fun _ _ => W.cmps_trans r s t)
    rw [W.cmp_zero] at *; exact h.trans h'
end
theorem W.cmps_take (l : List W) : ∀ (n : Nat), n < l.length → W.cmps (l.take n) l = -1 := by
  induction l with
  | nil => intro n h; simp at h
  | cons a r ih =>
    intro n h
    cases n with
    | zero => simp [W.cmps]
    | succ n =>
      rw [List.take_succ_cons]
      unfold W.cmps
      rw [if_neg (by rw [(W.cmp_zero a a).2 rfl]; simp), ih n (by simpa using h)]
theorem W.cmps_front (l : List W) (a b : List W) : W.cmps (l ++ a) (l ++ b) = W.cmps a b := by
  induction l with
  | nil => rfl
  | cons x r ih =>
    rw [List.cons_append, List.cons_append, W.cmps, if_neg (by rw [(W.cmp_zero x x).2 rfl]; simp), ih]
theorem W.cmps_one (a b : W) : W.cmps [a] [b] = W.cmp a b := by
  unfold W.cmps
  split
  · rfl
  · rename_i h; simp only [ne_eq, Decidable.not_not] at h; rw [h]; rfl
end
section
set_option linter.unusedVariables false
open Go

abbrev Bs := List UInt8
def deepT : Nat → T → Bool
  | 0, _ => false
  | n + 1, .mk k l =>
    if k = 1 ∨ k = 2 then l.isEmpty
    else if k = 3 then decide (2 ≤ l.length) && decide (l.length ≤ 4) && l.all (deepT n)
    else if k = 4 then decide (l.length = 1) && l.all (deepT n)
    else false
def sepB : Bs := [44, 32]
mutual
def textT : T → Bs
  | .mk k l =>
    if k = 1 then [98, 111, 111, 108] else if k = 2 then [105, 110, 116]
    else if k = 3 then [40] ++ Lib.join (textTs l) sepB ++ [41] else if k = 4 then [91] ++ Lib.join (textTs l) sepB ++ [93] else [63]
def textTs : List T → List Bs
  | [] => []
  | t :: r => textT t :: textTs r
end
def cutP (p s : Bs) : Option Bs := if p.isPrefixOf s then some (s.drop p.length) else none
theorem cutP_app (p r : Bs) : cutP p (p ++ r) = some r := by unfold cutP; simp
theorem cutP_some {p s r : Bs} (h : cutP p s = some r) : s = p ++ r := by
  unfold cutP at h
  split at h
  · rename_i hp
    obtain ⟨q, rfl⟩ := List.isPrefixOf_iff_prefix.1 hp
    simp at h
    rw [h]
  · cases h
theorem cutP_ne (a b : UInt8) (p q : Bs) (h : a ≠ b) : cutP (a :: p) (b :: q) = none := by
  unfold cutP
  simp [List.isPrefixOf, h]
theorem cutP_nil (a : UInt8) (p : Bs) : cutP (a :: p) [] = none := rfl

/-- Parts between separators, up to an end. -/
def loopL {α : Type} (rd : Bs → Option (α × Bs)) (fin : Bs) : Nat → Bs → List α → Option (List α × Bs)
  | 0, _, _ => none
  | f + 1, r, acc =>
    match rd r with
    | none => none
    | some (t, r1) =>
      match cutP fin r1 with
      | some r2 => some (acc ++ [t], r2)
      | none =>
        match cutP sepB r1 with
        | none => none
        | some r3 => loopL rd fin f r3 (acc ++ [t])
def readT : Nat → Bs → Option (T × Bs)
  | 0, _ => none
  | n + 1, s =>
    match cutP [98, 111, 111, 108] s with
    | some r => some (.mk 1 [], r)
    | none =>
      match cutP [105, 110, 116] s with
      | some r => some (.mk 2 [], r)
      | none =>
        match cutP [40] s with
        | some r => (loopL (readT n) [41] (r.length + 1) r []).map fun x => (.mk 3 x.1, x.2)
        | none =>
          match cutP [91] s with
          | some r => (loopL (readT n) [93] (r.length + 1) r []).map fun x => (.mk 4 x.1, x.2)
          | none => none
def parseT (s : Bs) : Option T :=
  match readT 40 s with
  | some (t, []) => if deepT 40 t then some t else none
  | _ => none

/-- As the reference reads. -/
def loopR (rd : Bs → Option (T × Bs)) : Nat → Bs → List T → Option (List T × Bs)
  | 0, _, _ => none
  | f + 1, r, acc =>
    match rd r with
    | none => none
    | some (t, r1) =>
      match cutP sepB r1 with
      | some r3 => loopR rd f r3 (acc ++ [t])
      | none =>
        match cutP [41] r1 with
        | some r2 => if 2 ≤ (acc ++ [t]).length ∧ (acc ++ [t]).length ≤ 4 then some (acc ++ [t], r2) else none
        | none => none
def readR : Nat → Bs → Option (T × Bs)
  | 0, _ => none
  | n + 1, s =>
    match cutP [98, 111, 111, 108] s with
    | some r => some (.mk 1 [], r)
    | none =>
      match cutP [105, 110, 116] s with
      | some r => some (.mk 2 [], r)
      | none =>
        match cutP [91] s with
        | some r =>
          match readR n r with
          | none => none
          | some (t, r1) =>
            match cutP [93] r1 with
            | none => none
            | some r2 => some (.mk 4 [t], r2)
        | none =>
          match cutP [40] s with
          | some r => (loopR (readR n) (r.length + 1) r []).map fun x => (.mk 3 x.1, x.2)
          | none => none
def parseR (s : Bs) : Option T :=
  match readR 40 s with
  | some (t, []) => some t
  | _ => none

theorem loopL_front {α : Type} {rd : Bs → Option (α × Bs)} {fin : Bs} : ∀ {f : Nat} {r : Bs} {acc : List α} {x : List α × Bs}, loopL rd fin f r acc = some x → ∃ l, l ≠ [] ∧ x.1 = acc ++ l
  | 0, _, _, _, h => by cases h
  | f + 1, r, acc, x, h => by
    unfold loopL at h
    split at h
    · cases h
    · rename_i t r1 _
      split at h
      · cases h; exact ⟨[t], by simp, rfl⟩
      · split at h
        · cases h
        · obtain ⟨l, h1, h2⟩ := loopL_front h
          exact ⟨t :: l, by simp, by rw [h2]; simp⟩
theorem cut_one_sep {c : UInt8} {r1 r2 : Bs} (hc : c ≠ 44) (h : cutP [c] r1 = some r2) : cutP sepB r1 = none := by
  rw [cutP_some h]
  exact cutP_ne 44 c [32] r2 (Ne.symm hc)
theorem loopR_eq {n : Nat} (ih : ∀ s, readR n s = (readT n s).filter (fun x => deepT n x.1)) : ∀ (f : Nat) (r : Bs) (acc : List T), acc.all (deepT n) = true →
    loopR (readR n) f r acc = (loopL (readT n) [41] f r acc).filter (fun x => decide (2 ≤ x.1.length) && decide (x.1.length ≤ 4) && x.1.all (deepT n))
  | 0, _, _, _ => rfl
  | f + 1, r, acc, ha => by
    unfold loopR loopL
    rw [ih r]
    cases hr : readT n r with
    | none => rfl
    | some p =>
      obtain ⟨t, r1⟩ := p
      cases hd : deepT n t with
      | false =>
        simp only [Option.filter_some, hd]
        have bad : ∀ x : List T × Bs, (∃ l, x.1 = acc ++ [t] ++ l) → (decide (2 ≤ x.1.length) && decide (x.1.length ≤ 4) && x.1.all (deepT n)) = false := by
          rintro x ⟨l, h⟩
          rw [h]
          simp [hd]
        simp only [Bool.false_eq_true, if_false]
        split
        · rw [Option.filter_some, bad _ ⟨[], by simp⟩]; rfl
        · split
          · rfl
          · rename_i r3 _
            cases hl : loopL (readT n) [41] f r3 (acc ++ [t]) with
            | none => rfl
            | some x =>
              obtain ⟨l, _, h2⟩ := loopL_front hl
              rw [Option.filter_some, bad x ⟨l, h2⟩]; rfl
      | true =>
        simp only [Option.filter_some, hd, if_true]
        have ha' : (acc ++ [t]).all (deepT n) = true := by rw [List.all_append, ha]; simp [hd]
        cases h1 : cutP [41] r1 with
        | some r2 =>
          rw [cut_one_sep (by decide) h1]
          simp only [Option.filter_some, ha', Bool.and_true]
          by_cases h3 : 2 ≤ (acc ++ [t]).length ∧ (acc ++ [t]).length ≤ 4
          · rw [if_pos h3, decide_eq_true h3.1, decide_eq_true h3.2]; rfl
          · rw [if_neg h3, if_neg]
            simpa using h3
        | none =>
          cases h2 : cutP sepB r1 with
          | none => rfl
          | some r3 => exact loopR_eq ih f r3 (acc ++ [t]) ha'
theorem readR_eq : ∀ (n : Nat) (s : Bs), readR n s = (readT n s).filter (fun x => deepT n x.1)
  | 0, s => rfl
  | n + 1, s => by
    unfold readR readT
    split
    · simp [Option.filter_some, deepT]
    · split
      · simp [Option.filter_some, deepT]
      · cases h1 : cutP [91] s with
        | some r =>
          have e := cutP_some h1
          have h0 : cutP [40] s = none := by rw [e]; exact cutP_ne 40 91 [] r (by decide)
          simp only [h0]
          rw [readR_eq n r]
          unfold loopL
          cases hr : readT n r with
          | none => rfl
          | some p =>
            obtain ⟨t, r1⟩ := p
            have many : ∀ f r3, ((loopL (readT n) [93] f r3 ([] ++ [t])).map fun x => (T.mk 4 x.1, x.2)).filter (fun x => deepT (n + 1) x.1) = none := fun f r3 => by
              cases hl : loopL (readT n) [93] f r3 ([] ++ [t]) with
              | none => rfl
              | some x =>
                obtain ⟨l, h3, h4⟩ := loopL_front hl
                rw [Option.map_some, Option.filter_some, if_neg]
                rw [h4]
                cases l with
                | nil => exact absurd rfl h3
                | cons a l => simp [deepT]
            cases hd : deepT n t with
            | false =>
              simp only [Option.filter_some, hd, Bool.false_eq_true, if_false]
              split
              · simp [Option.filter_some, deepT, hd]
              · split
                · rfl
                · exact (many _ _).symm
            | true =>
              simp only [Option.filter_some, hd, if_true]
              cases h5 : cutP [93] r1 with
              | some r2 => simp [Option.filter_some, deepT, hd]
              | none =>
                simp only
                split
                · rfl
                · exact (many _ _).symm
        | none =>
          cases h0 : cutP [40] s with
          | none => rfl
          | some r =>
            simp only
            rw [loopR_eq (readR_eq n) _ _ _ rfl]
            cases hl : loopL (readT n) [41] (r.length + 1) r [] with
            | none => rfl
            | some x =>
              simp only [Option.filter_some, Option.map_some, deepT]
              split <;> simp_all
theorem parseR_eq (s : Bs) : parseR s = parseT s := by
  unfold parseR parseT
  rw [readR_eq]
  cases readT 40 s with
  | none => rfl
  | some p =>
    obtain ⟨t, r⟩ := p
    rw [Option.filter_some]
    cases hd : deepT 40 t <;> cases r <;> simp [hd]

/-! ### Reading inverts writing -/
theorem textTs_map : ∀ l : List T, textTs l = l.map textT
  | [] => by rw [textTs]; rfl
  | t :: r => by rw [textTs, textTs_map r]; rfl
theorem join_two (x y : Bs) (r : List Bs) (sep : Bs) : Lib.join (x :: y :: r) sep = x ++ sep ++ Lib.join (y :: r) sep := by
  rw [Lib.join_cons, Lib.join_cons]
  simp [Lib.joinTail]
theorem loopL_join {α : Type} {rd : Bs → Option (α × Bs)} {tx : α → Bs} {c : UInt8} (hc : c ≠ 44) (q : Bs) : ∀ (l : List α) (f : Nat) (acc : List α), l ≠ [] → l.length ≤ f → (∀ x ∈ l, ∀ r, (r.head? = some c ∨ r.head? = some 44) → rd (tx x ++ r) = some (x, r)) →
    loopL rd [c] f (Lib.join (l.map tx) sepB ++ (c :: q)) acc = some (acc ++ l, q)
  | [], f, acc, h, _, _ => absurd rfl h
  | x :: l, 0, acc, _, h, _ => absurd h (by simp)
  | [x], f + 1, acc, _, _, hr => by
    unfold loopL
    simp only [List.map_cons, List.map_nil]
    rw [Lib.join_one, hr x (by simp) _ (.inl rfl)]
    simp only
    rw [show (c :: q) = [c] ++ q from rfl, cutP_app]
  | x :: y :: l, f + 1, acc, _, hf, hr => by
    unfold loopL
    simp only [List.map_cons]
    rw [join_two, List.append_assoc, List.append_assoc, hr x (by simp) _ (.inr rfl)]
    simp only
    have e1 : cutP [c] (sepB ++ (Lib.join (tx y :: l.map tx) sepB ++ (c :: q))) = none := cutP_ne c 44 [] _ hc
    rw [e1, cutP_app]
    simp only
    have := loopL_join hc q (y :: l) f (acc ++ [x]) (by simp) (by simpa using hf) (fun z hz => hr z (by simp at hz ⊢; exact .inr hz))
    rw [List.map_cons] at this
    rw [this]
    simp
theorem join_len : ∀ (l : List Bs), (∀ x ∈ l, 1 ≤ x.length) → l.length ≤ (Lib.join l sepB).length
  | [], _ => by simp
  | [x], h => by rw [Lib.join_one]; simpa using h x (by simp)
  | x :: y :: r, h => by
    rw [join_two]
    have := join_len (y :: r) (fun z hz => h z (by simp at hz ⊢; exact .inr hz))
    have := h x (by simp)
    simp only [List.length_append, List.length_cons] at *
    omega
theorem textT_pos (t : T) : 1 ≤ (textT t).length := by
  cases t
  unfold textT
  split
  · simp
  · split
    · simp
    · split
      · simp only [List.length_append, List.length_cons, List.length_nil]; omega
      · split
        · simp only [List.length_append, List.length_cons, List.length_nil]; omega
        · simp
theorem readT_text : ∀ (n : Nat) (t : T) (r : Bs), deepT n t = true → readT n (textT t ++ r) = some (t, r)
  | 0, t, r, h => by cases h
  | n + 1, .mk k l, r, h => by
    unfold readT
    unfold deepT at h
    have lens : (textTs l).length ≤ (Lib.join (textTs l) sepB).length := join_len _ (fun x hx => by
      rw [textTs_map] at hx
      obtain ⟨t, _, rfl⟩ := List.mem_map.1 hx
      exact textT_pos t)
    rw [textTs_map, List.length_map] at lens
    by_cases h1 : k = 1
    · subst h1
      rw [if_pos (.inl rfl)] at h
      rw [List.isEmpty_iff] at h
      subst h
      have e : textT (.mk 1 []) = [98, 111, 111, 108] := by rw [textT]; rfl
      rw [e, cutP_app]
    · by_cases h2 : k = 2
      · subst h2
        rw [if_pos (.inr rfl)] at h
        rw [List.isEmpty_iff] at h
        subst h
        have e : textT (.mk 2 []) = [105, 110, 116] := by rw [textT]; rfl
        rw [e, show cutP [98, 111, 111, 108] ([105, 110, 116] ++ r) = none from cutP_ne 98 105 _ _ (by decide), cutP_app]
      · rw [if_neg (by omega)] at h
        by_cases h3 : k = 3
        · subst h3
          rw [if_pos rfl] at h
          simp only [Bool.and_eq_true, decide_eq_true_eq, List.all_eq_true] at h
          have e : textT (.mk 3 l) ++ r = 40 :: (Lib.join (l.map textT) sepB ++ (41 :: r)) := by rw [textT, textTs_map]; simp
          rw [e, show cutP [98, 111, 111, 108] (40 :: (Lib.join (l.map textT) sepB ++ (41 :: r))) = none from cutP_ne 98 40 _ _ (by decide),
            show cutP [105, 110, 116] (40 :: (Lib.join (l.map textT) sepB ++ (41 :: r))) = none from cutP_ne 105 40 _ _ (by decide),
            show cutP [40] (40 :: (Lib.join (l.map textT) sepB ++ (41 :: r))) = some (Lib.join (l.map textT) sepB ++ (41 :: r)) from cutP_app [40] _]
          simp only
          rw [loopL_join (by decide) r l _ [] (by intro h0; subst h0; simp at h) (by simp only [List.length_append]; omega) (fun x hx q _ => readT_text n x q (h.2 x hx))]
          rfl
        · rw [if_neg h3] at h
          by_cases h4 : k = 4
          · subst h4
            rw [if_pos rfl] at h
            simp only [Bool.and_eq_true, decide_eq_true_eq, List.all_eq_true] at h
            have e : textT (.mk 4 l) ++ r = 91 :: (Lib.join (l.map textT) sepB ++ (93 :: r)) := by rw [textT, textTs_map]; simp
            rw [e, show cutP [98, 111, 111, 108] (91 :: (Lib.join (l.map textT) sepB ++ (93 :: r))) = none from cutP_ne 98 91 _ _ (by decide),
              show cutP [105, 110, 116] (91 :: (Lib.join (l.map textT) sepB ++ (93 :: r))) = none from cutP_ne 105 91 _ _ (by decide),
              show cutP [40] (91 :: (Lib.join (l.map textT) sepB ++ (93 :: r))) = none from cutP_ne 40 91 _ _ (by decide),
              show cutP [91] (91 :: (Lib.join (l.map textT) sepB ++ (93 :: r))) = some (Lib.join (l.map textT) sepB ++ (93 :: r)) from cutP_app [91] _]
            simp only
            rw [loopL_join (by decide) r l _ [] (by intro h0; subst h0; simp at h) (by simp only [List.length_append]; omega) (fun x hx q _ => readT_text n x q (h.2 x hx))]
            rfl
          · rw [if_neg h4] at h
            cases h
theorem parseT_text (t : T) (h : deepT 40 t = true) : parseT (textT t) = some t := by
  unfold parseT
  have := readT_text 40 t [] h
  rw [List.append_nil] at this
  rw [this]
  simp only [h, if_true]

/-! ### Writing inverts reading -/
theorem loopL_text {α : Type} {rd : Bs → Option (α × Bs)} {tx : α → Bs} {fin : Bs} (hr : ∀ s x r, rd s = some (x, r) → s = tx x ++ r) : ∀ (f : Nat) (s : Bs) (acc l : List α) (r : Bs), loopL rd fin f s acc = some (l, r) →
    ∃ l', l' ≠ [] ∧ l = acc ++ l' ∧ s = Lib.join (l'.map tx) sepB ++ fin ++ r
  | 0, _, _, _, _, h => by cases h
  | f + 1, s, acc, l, r, h => by
    unfold loopL at h
    split at h
    · cases h
    · rename_i t r1 ht
      have e := hr _ _ _ ht
      split at h
      · rename_i r2 h2
        cases h
        exact ⟨[t], by simp, rfl, by rw [e, cutP_some h2, List.map_cons, List.map_nil, Lib.join_one]; simp⟩
      · split at h
        · cases h
        · rename_i r3 h3
          obtain ⟨l', h4, h5, h6⟩ := loopL_text hr f _ _ _ _ h
          refine ⟨t :: l', by simp, by rw [h5]; simp, ?_⟩
          cases l' with
          | nil => exact absurd rfl h4
          | cons y l' =>
            rw [e, cutP_some h3, h6]
            simp only [List.map_cons]
            rw [join_two]
            simp
theorem readT_inv : ∀ (n : Nat) (s : Bs) (t : T) (r : Bs), readT n s = some (t, r) → s = textT t ++ r
  | 0, _, _, _, h => by cases h
  | n + 1, s, t, r, h => by
    unfold readT at h
    split at h
    · rename_i r1 h1
      cases h
      rw [cutP_some h1, textT]; rfl
    · split at h
      · rename_i r1 h1
        cases h
        rw [cutP_some h1, textT]; rfl
      · split at h
        · rename_i r1 h1
          rw [Option.map_eq_some_iff] at h
          obtain ⟨⟨l, q⟩, hl, h⟩ := h
          cases h
          obtain ⟨l', _, h5, h6⟩ := loopL_text (readT_inv n) _ _ _ _ _ hl
          rw [cutP_some h1, h6, textT, textTs_map, h5]
          simp
        · split at h
          · rename_i r1 h1
            rw [Option.map_eq_some_iff] at h
            obtain ⟨⟨l, q⟩, hl, h⟩ := h
            cases h
            obtain ⟨l', _, h5, h6⟩ := loopL_text (readT_inv n) _ _ _ _ _ hl
            rw [cutP_some h1, h6, textT, textTs_map, h5]
            simp
          · cases h
theorem parseT_inv {s : Bs} {t : T} (h : parseT s = some t) : textT t = s ∧ deepT 40 t = true := by
  unfold parseT at h
  split at h
  · rename_i t' ht
    split at h
    · rename_i hd
      cases h
      have := readT_inv _ _ _ _ ht
      rw [List.append_nil] at this
      exact ⟨this.symm, hd⟩
    · cases h
  · cases h
end
section
set_option linter.unusedVariables false
open Go Go.Lib

def isDig (c : UInt8) : Bool := decide (48 ≤ c.toNat) && decide (c.toNat ≤ 57)
def numC (c : UInt8) : Bool := decide (c.toNat = 45) || isDig c
def valD (acc : Nat) (l : Bs) : Nat := l.foldl (fun a c => a * 10 + (c.toNat - 48)) acc
theorem valD_nil (acc : Nat) : valD acc [] = acc := rfl
theorem valD_cons (acc : Nat) (c : UInt8) (r : Bs) : valD acc (c :: r) = valD (acc * 10 + (c.toNat - 48)) r := by unfold valD; rw [List.foldl_cons]
theorem valD_app (a : Bs) (acc : Nat) (b : Bs) : valD acc (a ++ b) = valD (valD acc a) b := by unfold valD; rw [List.foldl_append]
theorem valD_ge : ∀ (a : Bs) (acc : Nat), acc ≤ valD acc a
  | [], _ => Nat.le_refl _
  | c :: a, acc => by rw [valD_cons]; have := valD_ge a (acc * 10 + (c.toNat - 48)); omega
theorem decDigits_step {u : Nat} (h : ¬ u < 10) : decDigits u = decDigits (u / 10) ++ [UInt8.ofNat (48 + u % 10)] := by rw [decDigits, dif_neg h]
theorem ofNat_dig {d : Nat} (h : d < 10) : (UInt8.ofNat (48 + d)).toNat = 48 + d := by
  rw [UInt8.toNat_ofNat']
  omega
theorem decDigits_all (u : Nat) : ∀ c ∈ decDigits u, isDig c = true := by
  induction u using Nat.strongRecOn with
  | ind u ih =>
    by_cases h : u < 10
    · rw [decDigits_one h]
      intro c hc
      rw [List.mem_singleton] at hc
      subst hc
      unfold isDig
      rw [ofNat_dig h]
      simp; omega
    · rw [decDigits_step h]
      intro c hc
      rcases List.mem_append.1 hc with hc | hc
      · exact ih (u / 10) (by omega) c hc
      · rw [List.mem_singleton] at hc
        subst hc
        unfold isDig
        rw [ofNat_dig (by omega)]
        simp; omega
theorem decDigits_val (u : Nat) : valD 0 (decDigits u) = u := by
  induction u using Nat.strongRecOn with
  | ind u ih =>
    by_cases h : u < 10
    · rw [decDigits_one h, valD_cons, valD_nil, ofNat_dig h]; omega
    · rw [decDigits_step h, valD_app, ih (u / 10) (by omega), valD_cons, valD_nil, ofNat_dig (by omega)]; omega
theorem decDigits_ne (u : Nat) : decDigits u ≠ [] := by
  by_cases h : u < 10
  · rw [decDigits_one h]; simp
  · rw [decDigits_step h]; simp
theorem decDigits_head (u : Nat) (h1 : 1 ≤ u) : (decDigits u).head? ≠ some 48 := by
  induction u using Nat.strongRecOn with
  | ind u ih =>
    by_cases h : u < 10
    · rw [decDigits_one h]
      intro hc
      have := congrArg UInt8.toNat (Option.some.inj hc)
      rw [ofNat_dig h] at this
      have e : (48 : UInt8).toNat = 48 := rfl
      omega
    · rw [decDigits_step h, List.head?_append]
      have := ih (u / 10) (by omega) (by omega)
      cases hq : (decDigits (u / 10)).head? with
      | none => exact absurd (List.head?_eq_none_iff.1 hq) (decDigits_ne _)
      | some c => rw [hq] at this; exact this
theorem decDigits_len (k : Nat) : ∀ u : Nat, u < 10 ^ (k + 1) → (decDigits u).length ≤ k + 1 := by
  induction k with
  | zero => intro u h; rw [decDigits_one (by omega)]; simp
  | succ k ih =>
    intro u h
    by_cases h1 : u < 10
    · rw [decDigits_one h1]; simp
    · rw [decDigits_step h1, List.length_append]
      have := ih (u / 10) (by rw [Nat.pow_succ] at h; omega)
      simp only [List.length_cons, List.length_nil]
      omega
theorem decDigits_canon (ds : Bs) : ds ≠ [] → (∀ c ∈ ds, isDig c = true) → (ds.head? ≠ some 48 ∨ ds.length = 1) → decDigits (valD 0 ds) = ds ∧ (ds.head? ≠ some 48 → 1 ≤ valD 0 ds) := by
  suffices ∀ (n : Nat) (ds : Bs), ds.length = n → ds ≠ [] → (∀ c ∈ ds, isDig c = true) → (ds.head? ≠ some 48 ∨ ds.length = 1) → decDigits (valD 0 ds) = ds ∧ (ds.head? ≠ some 48 → 1 ≤ valD 0 ds) from this _ ds rfl
  intro n
  induction n with
  | zero => intro ds h h1; exact absurd (List.eq_nil_of_length_eq_zero h) h1
  | succ n ih =>
    intro ds hl hne hd hc
    obtain ⟨d', c, rfl⟩ : ∃ d' c, ds = d' ++ [c] := ⟨ds.dropLast, ds.getLast hne, (List.dropLast_concat_getLast hne).symm⟩
    have hcd := hd c (by simp)
    unfold isDig at hcd
    simp only [Bool.and_eq_true, decide_eq_true_eq] at hcd
    have back : UInt8.ofNat (48 + (c.toNat - 48)) = c := by
      have : 48 + (c.toNat - 48) = c.toNat := by omega
      rw [this]; exact UInt8.ofNat_toNat
    cases hq : d' with
    | nil =>
      subst hq
      simp only [List.nil_append, valD_cons, valD_nil, Nat.zero_mul, Nat.zero_add]
      refine ⟨by rw [decDigits_one (by omega), back], fun h => ?_⟩
      rcases Nat.eq_zero_or_pos (c.toNat - 48) with h0 | h0
      · exact absurd (show [c].head? = some 48 by
          have : c.toNat = 48 := by omega
          have : c = 48 := UInt8.toNat_inj.1 this
          rw [this]; rfl) h
      · exact h0
    | cons x xs =>
      rw [← hq]
      have h48 : d'.head? ≠ some 48 := by
        rcases hc with hc | hc
        · rw [hq] at hc ⊢; exact hc
        · rw [hq] at hc; simp at hc
      obtain ⟨h1, h2⟩ := ih d' (by simp at hl; omega) (by rw [hq]; simp) (fun z hz => hd z (by simp [hz])) (.inl h48)
      have h3 := h2 h48
      rw [valD_app, valD_cons, valD_nil]
      refine ⟨?_, fun _ => by omega⟩
      rw [decDigits_step (by omega)]
      have e1 : (valD 0 d' * 10 + (c.toNat - 48)) / 10 = valD 0 d' := by omega
      have e2 : (valD 0 d' * 10 + (c.toNat - 48)) % 10 = c.toNat - 48 := by omega
      rw [e1, e2, h1, back]

theorem parse_digits : ∀ (l : Bs) (acc : Nat), (∀ c ∈ l, isDig c = true) → valD acc l < 18446744073709551616 → parseUint10 acc l = .ok (valD acc l)
  | [], acc, _, _ => rfl
  | c :: r, acc, hd, hv => by
    have hc := hd c (by simp)
    unfold isDig at hc
    simp only [Bool.and_eq_true, decide_eq_true_eq] at hc
    rw [valD_cons] at hv
    have := valD_ge r (acc * 10 + (c.toNat - 48))
    rw [parseUint10, if_pos hc, if_neg (by omega), if_neg (by omega), valD_cons]
    exact parse_digits r _ (fun z hz => hd z (by simp [hz])) hv
theorem itoa_pos {n : Int} (h : 0 ≤ n) : itoa n = decDigits n.toNat := by unfold itoa; rw [if_neg (by omega)]
theorem itoa_min {n : Int} (h : n < 0) : itoa n = 45 :: decDigits n.natAbs := by unfold itoa; rw [if_pos h]
theorem atoi_itoa (n : Int) (h0 : -9223372036854775808 ≤ n) (h1 : n ≤ 9223372036854775807) : atoiAll (itoa n) = .ok n := by
  by_cases h : n < 0
  · rw [itoa_min h]
    unfold atoiAll
    have e : (45 : UInt8).toNat = 45 := rfl
    simp only [e, or_true, if_true]
    unfold parseMag
    rw [if_neg (decDigits_ne _), parse_digits _ _ (decDigits_all _) (by rw [decDigits_val]; omega), decDigits_val]
    simp only [not_true_eq_false, false_and, if_false, true_and]
    rw [if_neg (by omega)]
    congr 1
    omega
  · rw [itoa_pos (by omega)]
    cases hq : decDigits n.toNat with
    | nil => exact absurd hq (decDigits_ne _)
    | cons c r =>
      have hc := decDigits_all n.toNat c (by rw [hq]; simp)
      unfold isDig at hc
      simp only [Bool.and_eq_true, decide_eq_true_eq] at hc
      unfold atoiAll
      dsimp only
      have e1 : ¬ (c.toNat = 43 ∨ c.toNat = 45) := by omega
      have e2 : ¬ (c.toNat = 45) := by omega
      have e3 : (if c.toNat = 43 ∨ c.toNat = 45 then r else c :: r) = c :: r := if_neg e1
      rw [e3]
      simp only [e2]
      unfold parseMag
      rw [if_neg (by simp), ← hq, parse_digits _ _ (decDigits_all _) (by rw [decDigits_val]; omega), decDigits_val]
      simp only [not_false_eq_true, true_and, false_and, if_false]
      rw [if_neg (by omega)]
      congr 1
      omega
/-! ### Reading a number as the program does -/
def spanN : Nat → Bs → Bs
  | 0, _ => []
  | _ + 1, [] => []
  | n + 1, c :: r => if numC c then c :: spanN n r else []
def readI (s : Bs) : Option (Int × Bs) :=
  match atoiAll (spanN 11 s) with
  | .ok v => if itoa v = spanN 11 s then some (v, s.drop (spanN 11 s).length) else none
  | _ => none
def goodB (r : Bs) : Prop := ∀ c, r.head? = some c → numC c = false
theorem span_front : ∀ (n : Nat) (s : Bs), s = spanN n s ++ s.drop (spanN n s).length
  | 0, s => rfl
  | _ + 1, [] => rfl
  | n + 1, c :: r => by
    unfold spanN
    split
    · simp only [List.cons_append, List.length_cons, List.drop_succ_cons]
      rw [← span_front n r]
    · rfl
theorem span_all : ∀ (n : Nat) (a r : Bs), (∀ c ∈ a, numC c = true) → a.length ≤ n → goodB r → spanN n (a ++ r) = a
  | 0, a, r, _, hl, _ => by rw [List.eq_nil_of_length_eq_zero (Nat.le_zero.1 hl)]; rfl
  | n + 1, [], r, _, _, hg => by
    cases r with
    | nil => rfl
    | cons c r => rw [List.nil_append]; unfold spanN; rw [hg c rfl]; rfl
  | n + 1, c :: a, r, hc, hl, hg => by
    rw [List.cons_append]
    unfold spanN
    rw [hc c (by simp), if_pos rfl, span_all n a r (fun z hz => hc z (by simp [hz])) (by simpa using hl) hg]
theorem readI_inv {s r : Bs} {v : Int} (h : readI s = some (v, r)) : s = itoa v ++ r := by
  unfold readI at h
  split at h
  · split at h
    · rename_i v' _ he
      cases h
      rw [he]
      exact span_front 11 s
    · cases h
  · cases h
theorem itoa_numC (v : Int) : ∀ c ∈ itoa v, numC c = true := by
  have hd : ∀ u, ∀ c ∈ decDigits u, numC c = true := fun u c hc => by unfold numC; rw [decDigits_all u c hc, Bool.or_true]
  by_cases h : v < 0
  · rw [itoa_min h]
    intro c hc
    rcases List.mem_cons.1 hc with rfl | hc
    · rfl
    · exact hd _ c hc
  · rw [itoa_pos (by omega)]; exact hd _
theorem itoa_len {v : Int} (h0 : -2147483648 ≤ v) (h1 : v ≤ 2147483647) : (itoa v).length ≤ 11 := by
  by_cases h : v < 0
  · rw [itoa_min h, List.length_cons]
    have := decDigits_len 9 v.natAbs (by omega)
    omega
  · rw [itoa_pos (by omega)]
    have := decDigits_len 9 v.toNat (by omega)
    omega
theorem readI_text {v : Int} {r : Bs} (h0 : -2147483648 ≤ v) (h1 : v ≤ 2147483647) (hg : goodB r) : readI (itoa v ++ r) = some (v, r) := by
  unfold readI
  rw [span_all 11 _ r (itoa_numC v) (itoa_len h0 h1) hg, atoi_itoa v (by omega) (by omega)]
  simp
/-! ### .. and as the reference does -/
def spanD : Nat → Bs → Bs
  | 0, _ => []
  | _ + 1, [] => []
  | n + 1, c :: r => if isDig c then c :: spanD n r else []
def cutM (s : Bs) : Bool × Bs := match s with
  | [] => (false, [])
  | c :: r => if c = 45 then (true, r) else (false, c :: r)
def readNum (s : Bs) : Option (Int × Bs) :=
  let neg := (cutM s).1
  let ds := spanD 11 (cutM s).2
  let n : Int := if neg then -(valD 0 ds : Int) else valD 0 ds
  if ds ≠ [] ∧ (ds.head? ≠ some 48 ∨ ds.length = 1 ∧ neg = false) ∧ -2147483648 ≤ n ∧ n ≤ 2147483647 then some (n, (cutM s).2.drop ds.length) else none
theorem spanD_front : ∀ (n : Nat) (s : Bs), s = spanD n s ++ s.drop (spanD n s).length
  | 0, s => rfl
  | _ + 1, [] => rfl
  | n + 1, c :: r => by
    unfold spanD
    split
    · simp only [List.cons_append, List.length_cons, List.drop_succ_cons]
      rw [← spanD_front n r]
    · rfl
theorem spanD_dig : ∀ (n : Nat) (s : Bs), ∀ c ∈ spanD n s, isDig c = true
  | 0, s, c, h => by cases h
  | _ + 1, [], c, h => by cases h
  | n + 1, x :: r, c, h => by
    unfold spanD at h
    split at h
    · rcases List.mem_cons.1 h with rfl | h
      · assumption
      · exact spanD_dig n r c h
    · cases h
theorem spanD_all : ∀ (n : Nat) (a r : Bs), (∀ c ∈ a, isDig c = true) → a.length ≤ n → goodB r → spanD n (a ++ r) = a
  | 0, a, r, _, hl, _ => by rw [List.eq_nil_of_length_eq_zero (Nat.le_zero.1 hl)]; rfl
  | n + 1, [], r, _, _, hg => by
    cases r with
    | nil => rfl
    | cons c r =>
      rw [List.nil_append]
      have := hg c rfl
      unfold numC at this
      rw [Bool.or_eq_false_iff] at this
      unfold spanD
      rw [this.2]; rfl
  | n + 1, c :: a, r, hc, hl, hg => by
    rw [List.cons_append]
    unfold spanD
    rw [hc c (by simp), if_pos rfl, spanD_all n a r (fun z hz => hc z (by simp [hz])) (by simpa using hl) hg]
theorem cutM_front (s : Bs) : s = (if (cutM s).1 then [45] else []) ++ (cutM s).2 := by
  cases s with
  | nil => rfl
  | cons c r =>
    unfold cutM
    simp only
    split
    · rename_i h; rw [h]; rfl
    · rfl
theorem readNum_inv {s r : Bs} {v : Int} (h : readNum s = some (v, r)) : s = itoa v ++ r ∧ -2147483648 ≤ v ∧ v ≤ 2147483647 := by
  unfold readNum at h
  have hfr := cutM_front s
  cases hq : cutM s with
  | mk neg s' =>
    rw [hq] at hfr
    simp only [hq] at h hfr
    have hf := spanD_front 11 s'
    cases neg with
    | true =>
      simp only [if_true] at h hfr
      split at h
      · rename_i hc
        obtain ⟨h1, h2, h3, h4⟩ := hc
        injection h with h
        injection h with hv hr
        obtain ⟨k1, k2⟩ := decDigits_canon _ h1 (spanD_dig _ _) (h2.elim .inl (fun h => .inr h.1))
        have h48 : (spanD 11 s').head? ≠ some 48 := by
          rcases h2 with h2 | h2
          · exact h2
          · cases h2.2
        have := k2 h48
        refine ⟨?_, by omega, by omega⟩
        rw [itoa_min (by omega), show v.natAbs = valD 0 (spanD 11 s') by omega, k1, ← hr, List.cons_append, ← hf]
        exact hfr
      · cases h
    | false =>
      simp only [Bool.false_eq_true, if_false] at h hfr
      split at h
      · rename_i hc
        obtain ⟨h1, h2, h3, h4⟩ := hc
        injection h with h
        injection h with hv hr
        obtain ⟨k1, k2⟩ := decDigits_canon _ h1 (spanD_dig _ _) (h2.elim .inl (fun h => .inr h.1))
        refine ⟨?_, by omega, by omega⟩
        rw [itoa_pos (by omega), show v.toNat = valD 0 (spanD 11 s') by omega, k1, ← hr, ← hf]
        exact hfr
      · cases h
theorem readNum_text {v : Int} {r : Bs} (h0 : -2147483648 ≤ v) (h1 : v ≤ 2147483647) (hg : goodB r) : readNum (itoa v ++ r) = some (v, r) := by
  unfold readNum
  by_cases h : v < 0
  · have e : cutM (itoa v ++ r) = (true, decDigits v.natAbs ++ r) := by rw [itoa_min h]; rfl
    have hl := decDigits_len 9 v.natAbs (by omega)
    have hs := spanD_all 11 _ r (decDigits_all v.natAbs) (by omega) hg
    simp only [e, hs, decDigits_val, if_true]
    rw [if_pos ⟨decDigits_ne _, .inl (decDigits_head _ (by omega)), by omega, by omega⟩]
    simp
    omega
  · have e : cutM (itoa v ++ r) = (false, decDigits v.toNat ++ r) := by
      rw [itoa_pos (by omega)]
      cases hq : decDigits v.toNat with
      | nil => exact absurd hq (decDigits_ne _)
      | cons c x =>
        have hc := decDigits_all v.toNat c (by rw [hq]; simp)
        rw [List.cons_append]
        unfold cutM
        simp only
        rw [if_neg]
        intro h45
        rw [h45] at hc
        cases hc
    have hl := decDigits_len 9 v.toNat (by omega)
    have hs := spanD_all 11 _ r (decDigits_all v.toNat) (by omega) hg
    simp only [e, hs, decDigits_val, Bool.false_eq_true, if_false]
    have h2 : (decDigits v.toNat).head? ≠ some 48 ∨ (decDigits v.toNat).length = 1 ∧ True := by
      by_cases h0 : v.toNat = 0
      · right; rw [h0, decDigits_one (by omega)]; exact ⟨rfl, trivial⟩
      · left; exact decDigits_head _ (by omega)
    rw [if_pos ⟨decDigits_ne _, by simpa using h2, by omega, by omega⟩]
    simp
    omega
end
section
set_option linter.unusedVariables false
open Go
def all2 {α β : Type} (f : α → β → Bool) : List α → List β → Bool
  | [], [] => true
  | a :: r, b :: s => f a b && all2 f r s
  | _, _ => false
theorem all2_len {α β : Type} (f : α → β → Bool) : ∀ (l : List α) (s : List β), l.length ≠ s.length → all2 f l s = false
  | [], [], h => absurd rfl h
  | [], _ :: _, _ => rfl
  | _ :: _, [], _ => rfl
  | a :: r, b :: s, h => by rw [all2, all2_len f r s (by simpa using h), Bool.and_false]
def hasT : Nat → T → W → Bool
  | 0, _, _ => false
  | n + 1, .mk k l, .mk k' m vs =>
    decide (k' = k) && (if k = 1 then (decide (m = 0) || decide (m = 1)) && vs.isEmpty
      else if k = 2 then (decide (-2147483648 ≤ m) && decide (m ≤ 2147483647)) && vs.isEmpty
      else if k = 3 then decide (m = 0) && all2 (hasT n) l vs
      else decide (m = 0) && decide (vs.length ≤ 32) && vs.all (hasT n (l.getD 0 (.mk 0 []))))
/-! ### shapes -/
mutual
def joinT : T → T → Option T
  | .mk k l, .mk k' l' => if k = 0 then some (.mk k' l') else if k' = 0 then some (.mk k l) else if k ≠ k' ∨ l.length ≠ l'.length then none else (joinTs l l').map (T.mk k)
def joinTs : List T → List T → Option (List T)
  | [], _ => some []
  | a :: r, [] => none
  | a :: r, b :: s => match joinT a b with
    | none => none
    | some x => (joinTs r s).map (x :: ·)
end
mutual
def closedT : T → T
  | .mk k l => if k = 0 then .mk 1 [] else .mk k (closedTs l)
def closedTs : List T → List T
  | [] => []
  | a :: r => closedT a :: closedTs r
end
def shapes (f : W → Option T) : List W → Option (List T)
  | [] => some []
  | v :: r => match f v with
    | none => none
    | some t => (shapes f r).map (t :: ·)
def meets (f : W → Option T) : List W → T → Option T
  | [], all => some all
  | v :: r, all => match f v with
    | none => none
    | some t => match joinT all t with
      | none => none
      | some x => meets f r x
def shapeW : Nat → W → Option T
  | 0, _ => none
  | n + 1, .mk k m vs =>
    if k = 1 ∨ k = 2 then (if hasT 1 (.mk k []) (.mk k m vs) then some (.mk k []) else none)
    else if k = 3 ∧ m = 0 ∧ 2 ≤ vs.length ∧ vs.length ≤ 4 then (shapes (shapeW n) vs).map (T.mk 3)
    else if k = 4 ∧ m = 0 ∧ vs.length ≤ 32 then (meets (shapeW n) vs (.mk 0 [])).map fun x => T.mk 4 [x]
    else none
def openW : Nat → W → Option T
  | 0, _ => none
  | n + 1, .mk k m vs =>
    if k = 1 ∨ k = 2 then (if hasT 1 (.mk k []) (.mk k m vs) then some (.mk k []) else none)
    else if k = 3 then (if m = 0 ∧ 2 ≤ vs.length ∧ vs.length ≤ 4 then (shapes (openW n) vs).map (T.mk 3) else none)
    else if k = 4 then (if m = 0 ∧ vs.length ≤ 32 ∧ n ≠ 0 then (meets (openW n) vs (.mk 0 [])).map fun x => T.mk 4 [x] else none)
    else none
def rightP (v : W) : Bool := match shapeW 40 v with
  | some t => deepT 40 (closedT t) && decide (v.size ≤ 1000)
  | none => false
def rightR (v : W) : Bool := decide (v.size ≤ 1000) && (openW 40 v).isSome

theorem closedTs_map : ∀ l : List T, closedTs l = l.map closedT
  | [] => by rw [closedTs]; rfl
  | a :: r => by rw [closedTs, closedTs_map r]; rfl
theorem deep_one {n : Nat} {t : T} (h : deepT n t = true) : deepT n (.mk 1 []) = true := by
  cases n with
  | zero => cases h
  | succ n => rfl
/-- A node that is no hole, closed. -/
theorem deep_closed (n : Nat) (k : Int) (l : List T) (hk : k ≠ 0) : deepT (n + 1) (closedT (.mk k l)) = (if k = 1 ∨ k = 2 then l.isEmpty
    else if k = 3 then decide (2 ≤ l.length) && decide (l.length ≤ 4) && l.all (fun t => deepT n (closedT t))
    else if k = 4 then decide (l.length = 1) && l.all (fun t => deepT n (closedT t)) else false) := by
  rw [closedT, if_neg hk, closedTs_map, deepT, List.length_map, List.all_map]
  congr 1
  cases l <;> rfl
theorem joinTs_len : ∀ (l l' r : List T), joinTs l l' = some r → r.length = l.length
  | [], _, r, h => by rw [joinTs] at h; cases h; rfl
  | a :: l, [], r, h => by rw [joinTs] at h; cases h
  | a :: l, b :: l', r, h => by
    rw [joinTs] at h
    split at h
    · cases h
    · rw [Option.map_eq_some_iff] at h
      obtain ⟨r', h1, rfl⟩ := h
      simp [joinTs_len l l' r' h1]
mutual
theorem joinT_deep : ∀ (a b c : T) (n : Nat), joinT a b = some c → deepT n (closedT c) = (deepT n (closedT a) && deepT n (closedT b))
  | .mk k l, .mk k' l', c, n, h => by
    rw [joinT] at h
    have hole : ∀ (x : List T), deepT n (closedT (.mk 0 x)) = decide (1 ≤ n) := fun x => by
      rw [closedT, if_pos rfl]
      cases n <;> simp [deepT]
    have le : ∀ t : T, deepT n t = true → 1 ≤ n := fun t ht => by cases n with
      | zero => cases ht
      | succ n => omega
    split at h
    · rename_i hk
      cases h
      rw [hk, hole]
      cases hd : deepT n (closedT (.mk k' l')) with
      | false => simp
      | true => rw [decide_eq_true (le _ hd)]; rfl
    · split at h
      · rename_i hk
        cases h
        rw [hk, hole]
        cases hd : deepT n (closedT (.mk k l)) with
        | false => simp
        | true => rw [decide_eq_true (le _ hd)]; rfl
      · split at h
        · cases h
        · rename_i h1 h2 h3
          have h4 : k = k' ∧ l.length = l'.length := by
            refine ⟨?_, ?_⟩
            · exact Decidable.byContradiction fun q => h3 (.inl q)
            · exact Decidable.byContradiction fun q => h3 (.inr q)
          obtain ⟨rfl, hl⟩ := h4
          rw [Option.map_eq_some_iff] at h
          obtain ⟨r, hr, rfl⟩ := h
          cases n with
          | zero => rfl
          | succ n =>
            rw [deep_closed n k r h1, deep_closed n k l h1, deep_closed n k l' h1, joinTs_len _ _ _ hr, ← hl, joinTs_deep l l' r n hr hl]
            have hrl := joinTs_len _ _ _ hr
            have hre : r.isEmpty = l.isEmpty := by
              rw [Bool.eq_iff_iff, List.isEmpty_iff_length_eq_zero, List.isEmpty_iff_length_eq_zero]; omega
            have hle : l'.isEmpty = l.isEmpty := by
              rw [Bool.eq_iff_iff, List.isEmpty_iff_length_eq_zero, List.isEmpty_iff_length_eq_zero]; omega
            rw [hre, hle]
            by_cases q1 : k = 1 ∨ k = 2
            · simp only [if_pos q1, Bool.and_self]
            · by_cases q3 : k = 3
              · simp only [if_neg q1, if_pos q3]
                cases decide (2 ≤ l.length) <;> cases decide (l.length ≤ 4) <;> simp
              · by_cases q4 : k = 4
                · simp only [if_neg q1, if_neg q3, if_pos q4]
                  cases decide (l.length = 1) <;> simp
                · simp only [if_neg q1, if_neg q3, if_neg q4, Bool.and_self]
theorem joinTs_deep : ∀ (l l' r : List T) (n : Nat), joinTs l l' = some r → l.length = l'.length → r.all (fun t => deepT n (closedT t)) = (l.all (fun t => deepT n (closedT t)) && l'.all (fun t => deepT n (closedT t)))
  | [], [], r, n, h, _ => by rw [joinTs] at h; cases h; rfl
  | [], _ :: _, r, n, h, hl => by simp at hl
  | a :: l, [], r, n, h, hl => by simp at hl
  | a :: l, b :: l', r, n, h, hl => by
    rw [joinTs] at h
    split at h
    · cases h
    · rename_i x hx
      rw [Option.map_eq_some_iff] at h
      obtain ⟨r', h1, rfl⟩ := h
      rw [List.all_cons, List.all_cons, List.all_cons, joinT_deep a b x n hx, joinTs_deep l l' r' n h1 (by simpa using hl)]
      cases deepT n (closedT a) <;> cases deepT n (closedT b) <;> cases l.all (fun t => deepT n (closedT t)) <;> rfl
end
theorem shapes_len {f : W → Option T} : ∀ {l : List W} {r : List T}, shapes f l = some r → r.length = l.length
  | [], r, h => by cases h; rfl
  | v :: l, r, h => by
    unfold shapes at h
    split at h
    · cases h
    · rw [Option.map_eq_some_iff] at h
      obtain ⟨r', h1, rfl⟩ := h
      simp [shapes_len h1]
/-- What is open at n is the shape that is deep at n. -/
theorem openW_eq : ∀ (n : Nat) (v : W), openW n v = (shapeW n v).filter fun t => deepT n (closedT t)
  | 0, _ => rfl
  | n + 1, .mk k m vs => by
    have ih := openW_eq n
    have hsh : ∀ l : List W, shapes (openW n) l = (shapes (shapeW n) l).filter fun r => r.all fun t => deepT n (closedT t) := by
      intro l
      induction l with
      | nil => rfl
      | cons v l ih2 =>
        unfold shapes
        rw [ih v, ih2]
        cases shapeW n v with
        | none => rfl
        | some t =>
          simp only [Option.filter_some]
          cases hd : deepT n (closedT t) with
          | false =>
            cases shapes (shapeW n) l with
            | none => rfl
            | some r => simp [Option.filter_some, hd]
          | true =>
            cases shapes (shapeW n) l with
            | none => rfl
            | some r =>
              simp only [Option.filter_some, if_true, Option.map_some, List.all_cons, hd, Bool.true_and]
              split <;> simp_all
    have hme : ∀ (l : List W) (a : T), deepT n (closedT a) = true → meets (openW n) l a = (meets (shapeW n) l a).filter fun t => deepT n (closedT t) := by
      intro l
      induction l with
      | nil => intro a ha; simp [meets, Option.filter_some, ha]
      | cons v l ih2 =>
        intro a ha
        have grow : ∀ (l : List W) (x y : T), deepT n (closedT x) = false → meets (shapeW n) l x = some y → deepT n (closedT y) = false := by
          intro l
          induction l with
          | nil => intro x y hx h; cases h; exact hx
          | cons v l ih3 =>
            intro x y hx h
            unfold meets at h
            split at h
            · cases h
            · split at h
              · cases h
              · rename_i z hz
                exact ih3 _ _ (by rw [joinT_deep _ _ _ n hz, hx]; rfl) h
        unfold meets
        rw [ih v]
        cases shapeW n v with
        | none => rfl
        | some t =>
          simp only [Option.filter_some]
          cases hd : deepT n (closedT t) with
          | false =>
            simp only [Bool.false_eq_true, if_false]
            cases hj : joinT a t with
            | none => rfl
            | some x =>
              simp only
              cases hm : meets (shapeW n) l x with
              | none => rfl
              | some y => rw [Option.filter_some, grow l x y (by rw [joinT_deep _ _ _ n hj, hd, Bool.and_false]) hm]; rfl
          | true =>
            simp only [if_true]
            cases hj : joinT a t with
            | none => rfl
            | some x => exact ih2 x (by rw [joinT_deep _ _ _ n hj, ha, hd]; rfl)
    unfold openW shapeW
    by_cases h12 : k = 1 ∨ k = 2
    · rw [if_pos h12, if_pos h12]
      split
      · rename_i hh
        have hk : k ≠ 0 := by omega
        rw [Option.filter_some, deep_closed n k [] hk, if_pos h12]
        rfl
      · rfl
    · rw [if_neg h12, if_neg h12]
      by_cases h3 : k = 3
      · rw [if_pos h3]
        by_cases hc : m = 0 ∧ 2 ≤ vs.length ∧ vs.length ≤ 4
        · rw [if_pos hc, if_pos ⟨h3, hc⟩, hsh]
          cases hs : shapes (shapeW n) vs with
          | none => rfl
          | some r =>
            have hl := shapes_len hs
            rw [Option.map_some, Option.filter_some, Option.filter_some, deep_closed n 3 r (by decide), hl]
            simp only [show ¬ ((3 : Int) = 1 ∨ (3 : Int) = 2) by decide, if_false, if_true, decide_eq_true hc.2.1, decide_eq_true hc.2.2, Bool.true_and]
            split <;> rfl
        · rw [if_neg hc, if_neg (show ¬ (k = 3 ∧ m = 0 ∧ 2 ≤ vs.length ∧ vs.length ≤ 4) from fun q => hc q.2), if_neg (show ¬ (k = 4 ∧ m = 0 ∧ vs.length ≤ 32) from fun q => by omega)]
          rfl
      · rw [if_neg h3, if_neg (show ¬ (k = 3 ∧ m = 0 ∧ 2 ≤ vs.length ∧ vs.length ≤ 4) from fun q => h3 q.1)]
        by_cases h4 : k = 4
        · rw [if_pos h4]
          by_cases hc : m = 0 ∧ vs.length ≤ 32
          · rw [if_pos (show k = 4 ∧ m = 0 ∧ vs.length ≤ 32 from ⟨h4, hc⟩)]
            by_cases hn : n = 0
            · rw [if_neg (fun q => q.2.2 hn)]
              subst hn
              cases hm : meets (shapeW 0) vs (.mk 0 []) with
              | none => rfl
              | some x =>
                rw [Option.map_some, Option.filter_some, deep_closed 0 4 [x] (by decide)]
                rfl
            · rw [if_pos ⟨hc.1, hc.2, hn⟩, hme vs (.mk 0 []) (by
                rw [closedT, if_pos rfl]
                obtain ⟨n', rfl⟩ : ∃ n', n = n' + 1 := ⟨n - 1, by omega⟩
                rfl)]
              cases hm : meets (shapeW n) vs (.mk 0 []) with
              | none => rfl
              | some x =>
                rw [Option.map_some, Option.filter_some, Option.filter_some, deep_closed n 4 [x] (by decide)]
                simp only [show ¬ ((4 : Int) = 1 ∨ (4 : Int) = 2) by decide, show ¬ ((4 : Int) = 3) by decide, if_false, if_true, List.length_cons, List.length_nil, List.all_cons, List.all_nil, Bool.and_true]
                split <;> simp_all
          · rw [if_neg (fun q => hc ⟨q.1, q.2.1⟩), if_neg (show ¬ (k = 4 ∧ m = 0 ∧ vs.length ≤ 32) from fun q => hc q.2)]
            rfl
        · rw [if_neg h4, if_neg (show ¬ (k = 4 ∧ m = 0 ∧ vs.length ≤ 32) from fun q => h4 q.1)]
          rfl
theorem right_eq (v : W) : rightP v = rightR v := by
  unfold rightP rightR
  rw [openW_eq]
  cases shapeW 40 v with
  | none => simp
  | some t =>
    rw [Option.filter_some]
    cases hd : deepT 40 (closedT t) <;> simp [hd]
end
end Go.Proofs.YtkpdofiflhjahaaDoor.Ps
