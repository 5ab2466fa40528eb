/- The plain scanner over lists of bytes, and what is true of it: no program in sight. -/
import Derived.Lib.Index
import Derived.Lib.IndexMore
namespace Go.Proofs.Ytbmcafehpgimfaa.Lx
open Go

def sm (c : UInt8) : Bool := decide (97 ≤ c.toNat) && decide (c.toNat ≤ 122)
def dg (c : UInt8) : Bool := decide (48 ≤ c.toNat) && decide (c.toNat ≤ 57)
def nm (c : UInt8) : Bool := sm c || dg c || decide (c.toNat = 95)
def ws (c : UInt8) : Bool := decide (c.toNat = 32) || decide (c.toNat = 9) || decide (c.toNat = 13)
def nnl (c : UInt8) : Bool := !decide (c.toNat = 10)

def wordList : List (List UInt8) := [[97, 110, 100], [98, 111, 111, 108], [99, 97, 115, 101], [101, 108, 115, 101], [102, 97, 108, 115, 101], [102, 108, 105, 112], [102, 117, 110], [105, 102], [105, 110], [105, 110, 112, 117, 116], [105, 110, 116], [108, 101, 116], [110, 111, 116], [111, 98, 115, 101, 114, 118, 101], [111, 102], [111, 114], [112, 105, 99, 107], [114, 97, 110, 103, 101], [115, 99, 111, 114, 101], [116, 104, 101, 110], [116, 114, 117, 101]]
def has (ws : List (List UInt8)) (w : List UInt8) : Bool := ws.contains w
def hasB (l : List UInt8) (c : UInt8) : Bool := l.contains c
def isWord (w : List UInt8) : Bool := has wordList w

/-- The value of digits. -/
def val (w : List UInt8) : Nat := w.foldl (fun a c => a * 10 + (c.toNat - 48)) 0

def ones : List UInt8 := [40, 41, 91, 93, 123, 125, 44, 59, 58, 124, 43, 45, 42, 47, 37, 61, 60]
def twos : List (List UInt8) := [[61, 61], [61, 62], [60, 61], [58, 58]]
def sgn (l : List UInt8) : List UInt8 := if has twos (l.take 2) then l.take 2 else if hasB ones (l.headD 0) then l.take 1 else []

inductive R where
  | ok (kind : Int) (text : List UInt8) (n : Int)
  | bad (e : Int) (text : List UInt8)

def tok (l : List UInt8) : R :=
  if sm (l.headD 0) then
    (if 24 < (l.takeWhile nm).length then .bad 2 (l.takeWhile nm) else if isWord (l.takeWhile nm) then .ok 2 (l.takeWhile nm) 0 else .ok 1 (l.takeWhile nm) 0)
  else if dg (l.headD 0) then
    (if 2147483647 < val (l.takeWhile dg) then .bad 2 (l.takeWhile dg) else .ok 3 (l.takeWhile dg) (val (l.takeWhile dg)))
  else if sgn l = [] then .bad 10 (l.take 1) else .ok 4 (sgn l) 0

structure Tok where
  kind : Int
  text : List UInt8
  n : Int
  line : Int
  col : Int
deriving DecidableEq

structure Flt where
  e : Int
  text : List UInt8
  line : Int
  col : Int
deriving DecidableEq

def scan : List UInt8 → Int → Int → Except Flt (List Tok)
  | [], line, col => .ok [⟨5, [], 0, line, col⟩]
  | c :: t, line, col =>
    if c.toNat = 10 then scan t (line + 1) 1
    else if ws c then scan t line (col + 1)
    else if c.toNat = 35 then scan (t.dropWhile nnl) line (col + 1 + (t.takeWhile nnl).length)
    else match tok (c :: t) with
      | .bad e w => .error ⟨e, w, line, col⟩
      | .ok k w n => match scan (t.drop (w.length - 1)) line (col + w.length) with
        | .error f => .error f
        | .ok l => .ok (⟨k, w, n, line, col⟩ :: l)
termination_by l => l.length
decreasing_by
  all_goals simp only [List.length_cons, List.length_drop]
  all_goals (try have := (List.dropWhile_sublist (p := nnl) (l := t)).length_le)
  all_goals omega

theorem takeWhile_len (p : UInt8 → Bool) (l : List UInt8) : l.take (l.takeWhile p).length = l.takeWhile p := by
  induction l with
  | nil => rfl
  | cons c t ih =>
    by_cases h : p c = true
    · rw [List.takeWhile_cons_of_pos h]; simp [ih]
    · rw [List.takeWhile_cons_of_neg h]; rfl

theorem sm_nm {c : UInt8} (h : sm c = true) : nm c = true := by simp [nm, h]

theorem sgn_take (l : List UInt8) : sgn l = l.take (sgn l).length := by
  unfold sgn
  split
  · simp
  · split
    · simp
    · rfl

theorem sgn_ne {l : List UInt8} (h : sgn l ≠ []) : l ≠ [] := by
  rintro rfl
  exact h (by decide)

/-- A token's text begins the list. -/
theorem tok_take {l : List UInt8} {k : Int} {w : List UInt8} {n : Int} (h : tok l = .ok k w n) : w = l.take w.length ∧ w ≠ [] := by
  unfold tok at h
  split at h
  · rename_i hs
    have hne : l.takeWhile nm ≠ [] := by
      cases l with
      | nil => exact absurd hs (by decide)
      | cons c t => rw [List.takeWhile_cons_of_pos (show nm c = true from sm_nm hs)]; simp
    split at h
    · cases h
    · split at h <;> (cases h; exact ⟨(takeWhile_len nm l).symm, hne⟩)
  · split at h
    · rename_i hs
      have hne : l.takeWhile dg ≠ [] := by
        cases l with
        | nil => exact absurd hs (by decide)
        | cons c t => rw [List.takeWhile_cons_of_pos (show dg c = true from hs)]; simp
      split at h
      · cases h
      · cases h; exact ⟨(takeWhile_len dg l).symm, hne⟩
    · split at h
      · cases h
      · rename_i hs
        cases h; exact ⟨sgn_take l, hs⟩

/-! ### The reserved words, found in one text -/
theorem contains_cons (b : UInt8) (l sub : List UInt8) : Lib.contains (b :: l) sub = (sub.isPrefixOf (b :: l) || Lib.contains l sub) := by
  unfold Lib.contains
  have h := Lib.index_ge l sub
  rw [Lib.index]
  by_cases hp : sub.isPrefixOf (b :: l) = true
  · simp [hp]
  · have hp' : sub.isPrefixOf (b :: l) = false := Bool.eq_false_iff.2 hp
    rw [if_neg hp, hp', Bool.false_or]
    by_cases he : (Lib.index l sub == -1) = true
    · rw [if_pos he]
      have : Lib.index l sub = -1 := by simpa using he
      rw [this]
    · rw [if_neg he]
      have : Lib.index l sub ≠ -1 := by simpa using he
      by_cases h0 : 0 ≤ Lib.index l sub
      · rw [decide_eq_true h0, decide_eq_true (by omega)]
      · omega

theorem prefix_word : ∀ (w v rest : List UInt8), (∀ c ∈ w, c ≠ 32) → (∀ c ∈ v, c ≠ 32) → (w ++ [32]).isPrefixOf (v ++ 32 :: rest) = (v == w)
  | [], [], rest, _, _ => by simp
  | [], c :: v, rest, _, hv => by
    have hc : c ≠ 32 := hv c (by simp)
    have : ((32 : UInt8) == c) = false := by simpa using fun e => hc e.symm
    simp [List.isPrefixOf, this]
  | c :: w, [], rest, hw, _ => by
    have hc : c ≠ 32 := hw c (by simp)
    have : (c == (32 : UInt8)) = false := by simpa using hc
    simp [List.isPrefixOf, this]
  | c :: w, d :: v, rest, hw, hv => by
    have ih := prefix_word w v rest (fun x hx => hw x (by simp [hx])) (fun x hx => hv x (by simp [hx]))
    show ((c == d) && (w ++ [32]).isPrefixOf (v ++ 32 :: rest)) = (d == c && v == w)
    rw [ih, Bool.beq_comm (a := c)]

theorem contains_skip (sub : List UInt8) : ∀ (v l : List UInt8), (∀ c ∈ v, c ≠ 32) → Lib.contains (v ++ l) (32 :: sub) = Lib.contains l (32 :: sub)
  | [], _, _ => rfl
  | c :: v, l, hv => by
    have hc : c ≠ 32 := hv c (by simp)
    have h1 : ((32 : UInt8) == c) = false := by simpa using fun e => hc e.symm
    show Lib.contains (c :: (v ++ l)) (32 :: sub) = _
    rw [contains_cons, contains_skip sub v l (fun x hx => hv x (by simp [hx]))]
    simp [List.isPrefixOf, h1]

theorem contains_word (w v rest : List UInt8) (hw : ∀ c ∈ w, c ≠ 32) (hv : ∀ c ∈ v, c ≠ 32) :
    Lib.contains (32 :: (v ++ 32 :: rest)) (32 :: (w ++ [32])) = (v == w || Lib.contains (32 :: rest) (32 :: (w ++ [32]))) := by
  rw [contains_cons, contains_skip _ v _ hv]
  congr 1
  show ((32 : UInt8) == 32 && (w ++ [32]).isPrefixOf (v ++ 32 :: rest)) = (v == w)
  rw [prefix_word w v rest hw hv]
  rfl

/-- All the words with one blank between, as the list of them. -/
def spaced : List (List UInt8) → List UInt8
  | [] => [32]
  | v :: r => 32 :: (v ++ spaced r)

theorem spaced_head (r : List (List UInt8)) : ∃ t, spaced r = 32 :: t := by
  cases r <;> exact ⟨_, rfl⟩

theorem contains_spaced (w : List UInt8) (hw : ∀ c ∈ w, c ≠ 32) (hne : w ≠ []) : ∀ (ws : List (List UInt8)), (∀ v ∈ ws, ∀ c ∈ v, c ≠ 32) → Lib.contains (spaced ws) (32 :: (w ++ [32])) = ws.contains w
  | [], _ => by
    show Lib.contains [32] _ = _
    rw [contains_cons]
    cases w with
    | nil => exact absurd rfl hne
    | cons a r => cases r <;> rfl
  | v :: r, h => by
    obtain ⟨t, ht⟩ := spaced_head r
    have ih := contains_spaced w hw hne r (fun x hx => h x (by simp [hx]))
    show Lib.contains (32 :: (v ++ spaced r)) _ = _
    rw [ht, contains_word w v t hw (h v (by simp)), ← ht, ih, List.contains_cons]
    congr 1
    exact Bool.beq_comm

theorem nm_ne {c : UInt8} (h : nm c = true) : c ≠ 32 := by
  rintro rfl
  exact absurd h (by decide)

def wordText : List UInt8 := [32, 97, 110, 100, 32, 98, 111, 111, 108, 32, 99, 97, 115, 101, 32, 101, 108, 115, 101, 32, 102, 97, 108, 115, 101, 32, 102, 108, 105, 112, 32, 102, 117, 110, 32, 105, 102, 32, 105, 110, 32, 105, 110, 112, 117, 116, 32, 105, 110, 116, 32, 108, 101, 116, 32, 110, 111, 116, 32, 111, 98, 115, 101, 114, 118, 101, 32, 111, 102, 32, 111, 114, 32, 112, 105, 99, 107, 32, 114, 97, 110, 103, 101, 32, 115, 99, 111, 114, 101, 32, 116, 104, 101, 110, 32, 116, 114, 117, 101, 32]
theorem wordText_eq : wordText = spaced wordList := by decide

theorem contains_isWord (w : List UInt8) (hw : ∀ c ∈ w, nm c = true) (hne : w ≠ []) : Lib.contains wordText (32 :: (w ++ [32])) = isWord w := by
  rw [wordText_eq]
  exact contains_spaced w (fun c hc => nm_ne (hw c hc)) hne wordList (by decide)

theorem val_snoc (w : List UInt8) (c : UInt8) : val (w ++ [c]) = val w * 10 + (c.toNat - 48) := by
  unfold val
  rw [List.foldl_append]
  rfl

theorem foldl_ge : ∀ (w : List UInt8) (a : Nat), a ≤ w.foldl (fun a c => a * 10 + (c.toNat - 48)) a
  | [], a => Nat.le_refl _
  | c :: w, a => Nat.le_trans (by omega) (foldl_ge w (a * 10 + (c.toNat - 48)))
theorem has_yes {a x : List UInt8} (r : List (List UInt8)) (h : x = a) : has (a :: r) x = true := by unfold has; subst h; simp
theorem has_no {a x : List UInt8} (r : List (List UInt8)) (h : x ≠ a) : has (a :: r) x = has r x := by
  unfold has
  rw [List.contains_cons, beq_eq_false_iff_ne.2 h, Bool.false_or]
theorem has_nil (x : List UInt8) : has [] x = false := rfl
theorem hasB_iff {l : List UInt8} {c : UInt8} : hasB l c = true ↔ c ∈ l := List.contains_iff_mem
theorem hasB_cons (b : UInt8) (l : List UInt8) (c : UInt8) : hasB (b :: l) c = (c == b || hasB l c) := List.contains_cons
theorem hasB_nil (c : UInt8) : hasB [] c = false := rfl

theorem indexByte_has : ∀ (l : List UInt8) (c : UInt8), Lib.indexByte l c ≥ 0 ↔ hasB l c = true
  | [], c => by simp [Lib.indexByte, hasB]
  | b :: l, c => by
    have ih := indexByte_has l c
    have hge := Lib.indexByte_ge l c
    rw [Lib.indexByte, hasB_cons]
    by_cases h : (b == c) = true
    · have h' : (c == b) = true := by rw [Bool.beq_comm]; exact h
      rw [if_pos h, h']; simp
    · have h' : (c == b) = false := by rw [Bool.beq_comm]; simpa using h
      rw [if_neg h, h', Bool.false_or, ← ih]
      by_cases h2 : (Lib.indexByte l c == -1) = true
      · rw [if_pos h2]
        have : Lib.indexByte l c = -1 := by simpa using h2
        omega
      · rw [if_neg h2]
        have : Lib.indexByte l c ≠ -1 := by simpa using h2
        omega
end Go.Proofs.Ytbmcafehpgimfaa.Lx
