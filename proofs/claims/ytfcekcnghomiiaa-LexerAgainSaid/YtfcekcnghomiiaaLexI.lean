/- Lexing the text of tokens: the plain law. -/
import Derived.Test.YtfcekcnghomiiaaLexG
import Derived.Lib.Join
namespace Go.Proofs.Ytfcekcnghomiiaa.Lx

/-- A token without its place. -/
def bare (t : Tok) : Int × List UInt8 × Int := (t.kind, t.text, t.n)

/-- A list of which each but the last is what its text scans to, and of which the last is the end. -/
inductive Good : List Tok → Prop where
  | fin (line col : Int) : Good [⟨5, [], 0, line, col⟩]
  | tok (k : Int) (w : List UInt8) (n line col : Int) (l : List UInt8) (r : List Tok) : tok l = .ok k w n → (∃ c t, w = c :: t ∧ c.toNat ≠ 10 ∧ ws c = false ∧ c.toNat ≠ 35) → Good r → Good (⟨k, w, n, line, col⟩ :: r)

theorem scan_good : ∀ (m : Nat) (l : List UInt8) (line col : Int) (ts : List Tok), l.length ≤ m → scan l line col = .ok ts → Good ts := by
  intro m
  induction m with
  | zero =>
    intro l line col ts hl h
    cases l with
    | nil => rw [scan] at h; cases h; exact .fin _ _
    | cons c t => simp at hl
  | succ m ih =>
    intro l line col ts hl h
    cases l with
    | nil => rw [scan] at h; cases h; exact .fin _ _
    | cons c t =>
      rw [List.length_cons] at hl
      rw [scan] at h
      by_cases c10 : c.toNat = 10
      · rw [if_pos c10] at h
        exact ih t _ _ ts (by omega) h
      · rw [if_neg c10] at h
        by_cases cw : ws c = true
        · rw [if_pos cw] at h
          exact ih t _ _ ts (by omega) h
        · rw [if_neg cw] at h
          by_cases c35 : c.toNat = 35
          · rw [if_pos c35] at h
            have hd : (t.dropWhile nnl).length ≤ t.length := (List.dropWhile_sublist nnl).length_le
            exact ih (t.dropWhile nnl) _ _ ts (by omega) h
          · rw [if_neg c35] at h
            cases htk : tok (c :: t) with
            | bad e w => rw [htk] at h; cases h
            | ok k w n =>
              rw [htk] at h
              simp only [] at h
              cases hs : scan (t.drop (w.length - 1)) line (col + w.length) with
              | error f => rw [hs] at h; cases h
              | ok l2 =>
                rw [hs] at h
                cases h
                obtain ⟨hw, hwn⟩ := tok_take htk
                refine .tok k w n line col (c :: t) l2 htk ?_ (ih _ _ _ l2 (by rw [List.length_drop]; omega) hs)
                cases w with
                | nil => exact absurd rfl hwn
                | cons b w' =>
                  rw [List.length_cons, List.take_succ_cons] at hw
                  injection hw with e _
                  exact ⟨b, w', rfl, e ▸ c10, by rw [e]; simpa using cw, e ▸ c35⟩

def isTok (t : Tok) : Bool := decide (t.kind ≠ 5)
/-- The texts with blanks between. -/
def joinT : List Tok → List UInt8
  | [] => []
  | [_] => []
  | [a, _] => a.text
  | a :: r => a.text ++ 32 :: joinT r

theorem joinT_cons (a b c : Tok) (r : List Tok) : joinT (a :: b :: c :: r) = a.text ++ 32 :: joinT (b :: c :: r) := rfl

theorem scan_joinT : ∀ (ts : List Tok), Good ts → ∀ line col, ∃ us, scan (joinT ts) line col = .ok us ∧ us.map bare = ts.map bare := by
  intro ts hg
  induction hg with
  | fin l c => intro line col; exact ⟨[⟨5, [], 0, line, col⟩], by rw [joinT, scan], rfl⟩
  | tok k w n l0 c0 l r htk hw hr ih =>
    intro line col
    obtain ⟨c, t, rfl, c10, cw, c35⟩ := hw
    have cw' : ¬ ws c = true := by rw [cw]; decide
    cases hr with
    | fin l1 c1 =>
      have h1 : tok (c :: t) = .ok k (c :: t) n := by
        have := tok_ext (z := []) htk (.inl rfl)
        rwa [List.append_nil] at this
      refine ⟨[⟨k, c :: t, n, line, col⟩, ⟨5, [], 0, line, col + ((c :: t).length : Int)⟩], ?_, rfl⟩
      show scan (c :: t) line col = _
      rw [scan, if_neg c10, if_neg cw', if_neg c35, h1]
      simp only [List.length_cons, Nat.add_sub_cancel]
      rw [List.drop_length, scan]
    | tok k2 w2 n2 l2 c2 l' r' htk2 hw2 hr2 =>
      obtain ⟨us, hus, hb⟩ := ih line (col + ((c :: t).length : Int) + 1)
      obtain ⟨b, r2, hr'⟩ : ∃ b r2, r' = b :: r2 := by
        cases hr2 with
        | fin _ _ => exact ⟨_, _, rfl⟩
        | tok _ _ _ _ _ _ _ _ _ _ => exact ⟨_, _, rfl⟩
      subst hr'
      have h1 : tok ((c :: t) ++ 32 :: joinT (⟨k2, w2, n2, l2, c2⟩ :: b :: r2)) = .ok k (c :: t) n := tok_ext htk (.inr ⟨32, _, rfl, .inl rfl⟩)
      refine ⟨⟨k, c :: t, n, line, col⟩ :: us, ?_, ?_⟩
      · rw [joinT_cons]
        show scan (c :: (t ++ 32 :: joinT (⟨k2, w2, n2, l2, c2⟩ :: b :: r2))) line col = _
        have h1' : tok (c :: (t ++ 32 :: joinT (⟨k2, w2, n2, l2, c2⟩ :: b :: r2))) = .ok k (c :: t) n := h1
        rw [scan, if_neg c10, if_neg cw', if_neg c35, h1']
        simp only [List.length_cons, Nat.add_sub_cancel]
        rw [List.drop_left, scan, if_neg (by decide), if_pos (by decide)]
        rw [List.length_cons] at hus
        rw [hus]
      · rw [List.map_cons, List.map_cons, hb]; rfl

theorem good_texts : ∀ (ts : List Tok), Good ts → Lib.join ((ts.filter fun t => decide (t.kind ≠ 5)).map (·.text)) [32] = joinT ts := by
  intro ts hg
  induction hg with
  | fin l c => rfl
  | tok k w n l0 c0 l r htk hw hr ih =>
    have hk : k ≠ 5 := tok_kind htk
    cases hr with
    | fin l1 c1 =>
      simp [hk, Lib.join, List.intercalate, joinT]
    | tok k2 w2 n2 l2 c2 l' r' htk2 hw2 hr2 =>
      obtain ⟨b, r2, hr'⟩ : ∃ b r2, r' = b :: r2 := by
        cases hr2 with
        | fin _ _ => exact ⟨_, _, rfl⟩
        | tok _ _ _ _ _ _ _ _ _ _ => exact ⟨_, _, rfl⟩
      subst hr'
      have hk2 : k2 ≠ 5 := tok_kind htk2
      rw [joinT_cons, ← ih]
      simp [hk, hk2, Lib.join, List.intercalate]

/-- How long the text of scanned tokens is. -/
theorem joinT_len : ∀ (m : Nat) (l : List UInt8) (line col : Int) (ts : List Tok), l.length ≤ m → scan l line col = .ok ts → (joinT ts).length ≤ 2 * l.length := by
  intro m
  induction m with
  | zero =>
    intro l line col ts hl h
    cases l with
    | nil => rw [scan] at h; cases h; simp [joinT]
    | cons c t => simp at hl
  | succ m ih =>
    intro l line col ts hl h
    cases l with
    | nil => rw [scan] at h; cases h; simp [joinT]
    | cons c t =>
      rw [List.length_cons] at hl
      rw [scan] at h
      rw [List.length_cons]
      by_cases c10 : c.toNat = 10
      · rw [if_pos c10] at h
        have := ih t _ _ ts (by omega) h
        omega
      · rw [if_neg c10] at h
        by_cases cw : ws c = true
        · rw [if_pos cw] at h
          have := ih t _ _ ts (by omega) h
          omega
        · rw [if_neg cw] at h
          by_cases c35 : c.toNat = 35
          · rw [if_pos c35] at h
            have hd : (t.dropWhile nnl).length ≤ t.length := (List.dropWhile_sublist nnl).length_le
            have := ih (t.dropWhile nnl) _ _ ts (by omega) h
            omega
          · rw [if_neg c35] at h
            cases htk : tok (c :: t) with
            | bad e w => rw [htk] at h; cases h
            | ok k w n =>
              rw [htk] at h
              simp only [] at h
              cases hs : scan (t.drop (w.length - 1)) line (col + w.length) with
              | error f => rw [hs] at h; cases h
              | ok l2 =>
                rw [hs] at h
                cases h
                obtain ⟨hw, hwn⟩ := tok_take htk
                have hw0 : 0 < w.length := List.length_pos_iff.2 hwn
                have hwl := congrArg List.length hw
                rw [List.length_take, List.length_cons] at hwl
                have h2 := ih (t.drop (w.length - 1)) _ _ l2 (by rw [List.length_drop]; omega) hs
                rw [List.length_drop] at h2
                match l2 with
                | [] => simp [joinT]
                | [a] => show w.length ≤ _; omega
                | a :: b :: r =>
                  rw [joinT_cons, List.length_append, List.length_cons]
                  show w.length + _ ≤ _
                  omega
end Go.Proofs.Ytfcekcnghomiiaa.Lx
