/- More on the plain scanner. -/
import Derived.Test.YtfcekcnghomiiaaLexA
namespace Go.Proofs.Ytfcekcnghomiiaa.Lx

theorem scan_len : ∀ (n : Nat) (l : List UInt8) (line col : Int) (ts : List Tok), l.length ≤ n → scan l line col = .ok ts → ts.length ≤ l.length + 1 := by
  intro n
  induction n with
  | zero =>
    intro l line col ts hl h
    cases l with
    | nil => rw [scan] at h; cases h; simp
    | cons c t => simp at hl
  | succ n ih =>
    intro l line col ts hl h
    cases l with
    | nil => rw [scan] at h; cases h; simp
    | cons c t =>
      rw [List.length_cons] at hl
      rw [scan] at h
      by_cases c10 : c.toNat = 10
      · rw [if_pos c10] at h
        have := ih t _ _ ts (by omega) h
        rw [List.length_cons]; omega
      · rw [if_neg c10] at h
        by_cases cw : ws c = true
        · rw [if_pos cw] at h
          have := ih t _ _ ts (by omega) h
          rw [List.length_cons]; omega
        · rw [if_neg cw] at h
          by_cases c35 : c.toNat = 35
          · rw [if_pos c35] at h
            have hd : (t.dropWhile nnl).length ≤ t.length := (List.dropWhile_sublist nnl).length_le
            have := ih (t.dropWhile nnl) _ _ ts (by omega) h
            rw [List.length_cons]; omega
          · rw [if_neg c35] at h
            cases htk : tok (c :: t) with
            | bad e w => rw [htk] at h; cases h
            | ok k w m =>
              rw [htk] at h
              simp only [] at h
              cases hs : scan (t.drop (w.length - 1)) line (col + w.length) with
              | error f => rw [hs] at h; cases h
              | ok l2 =>
                rw [hs] at h
                cases h
                have := ih (t.drop (w.length - 1)) _ _ l2 (by rw [List.length_drop]; omega) hs
                rw [List.length_drop] at this
                rw [List.length_cons, List.length_cons]; omega

/-- The first token stands at, or behind, where the scanning begins. -/
theorem first_pos : ∀ (n : Nat) (l : List UInt8) (line col : Int) (tk : Tok) (rest : List Tok), l.length ≤ n → scan l line col = .ok (tk :: rest) → line < tk.line ∨ (tk.line = line ∧ col ≤ tk.col) := by
  intro n
  induction n with
  | zero =>
    intro l line col tk rest hl h
    cases l with
    | nil => rw [scan] at h; cases h; exact .inr ⟨rfl, Int.le_refl _⟩
    | cons c t => simp at hl
  | succ n ih =>
    intro l line col tk rest hl h
    cases l with
    | nil => rw [scan] at h; cases h; exact .inr ⟨rfl, Int.le_refl _⟩
    | cons c t =>
      rw [List.length_cons] at hl
      rw [scan] at h
      by_cases c10 : c.toNat = 10
      · rw [if_pos c10] at h
        have := ih t _ _ tk rest (by omega) h
        omega
      · rw [if_neg c10] at h
        by_cases cw : ws c = true
        · rw [if_pos cw] at h
          have := ih t _ _ tk rest (by omega) h
          omega
        · rw [if_neg cw] at h
          by_cases c35 : c.toNat = 35
          · rw [if_pos c35] at h
            have hd : (t.dropWhile nnl).length ≤ t.length := (List.dropWhile_sublist nnl).length_le
            have := ih (t.dropWhile nnl) _ _ tk rest (by omega) h
            omega
          · rw [if_neg c35] at h
            cases htk : tok (c :: t) with
            | bad e w => rw [htk] at h; cases h
            | ok k w m =>
              rw [htk] at h
              simp only [] at h
              cases hs : scan (t.drop (w.length - 1)) line (col + w.length) with
              | error f => rw [hs] at h; cases h
              | ok l2 =>
                rw [hs] at h
                cases h
                exact .inr ⟨rfl, Int.le_refl _⟩

theorem tok_kind {l : List UInt8} {k : Int} {w : List UInt8} {n : Int} (h : tok l = .ok k w n) : k ≠ 5 := by
  unfold tok at h
  split at h
  · split at h
    · cases h
    · split at h <;> (cases h; decide)
  · split at h
    · split at h
      · cases h
      · cases h; decide
    · split at h
      · cases h
      · cases h; decide


theorem scan_ne : ∀ (l : List UInt8) (line col : Int), scan l line col ≠ .ok [] := by
  have key : ∀ (n : Nat) (l : List UInt8) (line col : Int), l.length ≤ n → scan l line col ≠ .ok [] := by
    intro n
    induction n with
    | zero =>
      intro l line col hl h
      cases l with
      | nil => rw [scan] at h; cases h
      | cons c t => simp at hl
    | succ n ih =>
      intro l line col hl h
      cases l with
      | nil => rw [scan] at h; cases h
      | cons c t =>
        rw [List.length_cons] at hl
        rw [scan] at h
        by_cases c10 : c.toNat = 10
        · rw [if_pos c10] at h
          exact ih t _ _ (by omega) h
        · rw [if_neg c10] at h
          by_cases cw : ws c = true
          · rw [if_pos cw] at h
            exact ih t _ _ (by omega) h
          · rw [if_neg cw] at h
            by_cases c35 : c.toNat = 35
            · rw [if_pos c35] at h
              have hd : (t.dropWhile nnl).length ≤ t.length := (List.dropWhile_sublist nnl).length_le
              exact ih (t.dropWhile nnl) _ _ (by omega) h
            · rw [if_neg c35] at h
              cases htk : tok (c :: t) with
              | bad e w => rw [htk] at h; cases h
              | ok k w m =>
                rw [htk] at h
                simp only [] at h
                cases hs : scan (t.drop (w.length - 1)) line (col + w.length) with
                | error f => rw [hs] at h; cases h
                | ok l2 => rw [hs] at h; cases h
  exact fun l line col => key l.length l line col (Nat.le_refl _)

theorem tok_bad {l : List UInt8} {e : Int} {w : List UInt8} (h : tok l = .bad e w) : e ≠ 0 := by
  unfold tok at h
  split at h
  · split at h
    · cases h; decide
    · split at h <;> cases h
  · split at h
    · split at h
      · cases h; decide
      · cases h
    · split at h
      · cases h; decide
      · cases h

theorem scan_err : ∀ (n : Nat) (l : List UInt8) (line col : Int) (f : Flt), l.length ≤ n → scan l line col = .error f → f.e ≠ 0 := by
  intro n
  induction n with
  | zero =>
    intro l line col f hl h
    cases l with
    | nil => rw [scan] at h; cases h
    | cons c t => simp at hl
  | succ n ih =>
    intro l line col f hl h
    cases l with
    | nil => rw [scan] at h; cases h
    | cons c t =>
      rw [List.length_cons] at hl
      rw [scan] at h
      by_cases c10 : c.toNat = 10
      · rw [if_pos c10] at h
        exact ih t _ _ f (by omega) h
      · rw [if_neg c10] at h
        by_cases cw : ws c = true
        · rw [if_pos cw] at h
          exact ih t _ _ f (by omega) h
        · rw [if_neg cw] at h
          by_cases c35 : c.toNat = 35
          · rw [if_pos c35] at h
            have hd : (t.dropWhile nnl).length ≤ t.length := (List.dropWhile_sublist nnl).length_le
            exact ih (t.dropWhile nnl) _ _ f (by omega) h
          · rw [if_neg c35] at h
            cases htk : tok (c :: t) with
            | bad e w =>
              rw [htk] at h
              cases h
              exact tok_bad htk
            | ok k w m =>
              rw [htk] at h
              simp only [] at h
              cases hs : scan (t.drop (w.length - 1)) line (col + w.length) with
              | error f' =>
                rw [hs] at h
                cases h
                exact ih (t.drop (w.length - 1)) _ _ _ (by rw [List.length_drop]; omega) hs
              | ok l2 => rw [hs] at h; cases h
end Go.Proofs.Ytfcekcnghomiiaa.Lx
