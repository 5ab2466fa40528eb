/- The plain scanner over lists of bytes, and what is true of it: no program in sight. Syntax trees; the grammar as readers of a small language; what reading with a given fuel does. Reading without fuel: the readings' one meaning. More on the plain scanner. The plain scanner over a text that is cut off or goes on otherwise. Scanning a text after a line's end: the plain law. Lexing the text of tokens: the plain law. Where a token stands in its text, and that the text ahead of it may go on otherwise. Readings of two texts: of texts that begin alike; of texts alike but for places. Types, expressions and programs as pieces of text: tokens and white space. The text of pieces that stand well together: its tokens are theirs. The text of an expression, a type, a program: its tokens are its pieces'. Names: what the lexer tells of a text that is one. Trees alike; trees whose lists are no longer than the form's own reach (pure). The text of an expression, said with bytes. How long a text is, at most; it is not empty. The text of types and of a program, said with bytes. How long the texts of types and programs are, at most. -/
import Derived.Lib.Index
import Derived.Lib.IndexMore
import Derived.Lib.Join
import Derived.Lib.ItoaNum
namespace Go.Proofs.YtaphnbaiamnfpaaGreatDoor.Lx
open Go

def sm (c : UInt8) : Bool := decide (97 ≤ c.toNat) && decide (c.toNat ≤ 122)
def dg (c : UInt8) : Bool := decide (48 ≤ c.toNat) && decide (c.toNat ≤ 57)
def nm (c : UInt8) : Bool := sm c || dg c || decide (c.toNat = 95)
def ws (c : UInt8) : Bool := decide (c.toNat = 32) || decide (c.toNat = 9) || decide (c.toNat = 13)
def nnl (c : UInt8) : Bool := !decide (c.toNat = 10)

def wordList : List (List UInt8) := [[97, 110, 100], [98, 111, 111, 108], [99, 97, 115, 101], [101, 108, 115, 101], [102, 97, 108, 115, 101], [102, 108, 105, 112], [102, 117, 110], [105, 102], [105, 110], [105, 110, 112, 117, 116], [105, 110, 116], [108, 101, 116], [110, 111, 116], [111, 98, 115, 101, 114, 118, 101], [111, 102], [111, 114], [112, 105, 99, 107], [114, 97, 110, 103, 101], [115, 99, 111, 114, 101], [116, 104, 101, 110], [116, 114, 117, 101]]
def has (ws : List (List UInt8)) (w : List UInt8) : Bool := ws.contains w
def hasB (l : List UInt8) (c : UInt8) : Bool := l.contains c
def isWord (w : List UInt8) : Bool := has wordList w

def val (w : List UInt8) : Nat := w.foldl (fun a c => a * 10 + (c.toNat - 48)) 0

def ones : List UInt8 := [40, 41, 91, 93, 123, 125, 44, 59, 58, 124, 43, 45, 42, 47, 37, 61, 60]
def twos : List (List UInt8) := [[61, 61], [61, 62], [60, 61], [58, 58]]
def sgn (l : List UInt8) : List UInt8 := if has twos (l.take 2) then l.take 2 else if hasB ones (l.headD 0) then l.take 1 else []

inductive R where
  | ok (kind : Int) (text : List UInt8) (n : Int)
  | bad (e : Int) (text : List UInt8)

def tok (l : List UInt8) : R :=
  if sm (l.headD 0) then
    (if 24 < (l.takeWhile nm).length then .bad 2 (l.takeWhile nm) else if isWord (l.takeWhile nm) then .ok 2 (l.takeWhile nm) 0 else .ok 1 (l.takeWhile nm) 0)
  else if dg (l.headD 0) then
    (if 2147483647 < val (l.takeWhile dg) then .bad 2 (l.takeWhile dg) else .ok 3 (l.takeWhile dg) (val (l.takeWhile dg)))
  else if sgn l = [] then .bad 10 (l.take 1) else .ok 4 (sgn l) 0

structure Tok where
  kind : Int
  text : List UInt8
  n : Int
  line : Int
  col : Int
deriving DecidableEq

structure Flt where
  e : Int
  text : List UInt8
  line : Int
  col : Int
deriving DecidableEq

def scan : List UInt8 → Int → Int → Except Flt (List Tok)
  | [], line, col => .ok [⟨5, [], 0, line, col⟩]
  | c :: t, line, col =>
    if c.toNat = 10 then scan t (line + 1) 1
    else if ws c then scan t line (col + 1)
    else if c.toNat = 35 then scan (t.dropWhile nnl) line (col + 1 + (t.takeWhile nnl).length)
    else match tok (c :: t) with
      | .bad e w => .error ⟨e, w, line, col⟩
      | .ok k w n => match scan (t.drop (w.length - 1)) line (col + w.length) with
        | .error f => .error f
        | .ok l => .ok (⟨k, w, n, line, col⟩ :: l)
termination_by l => l.length
decreasing_by
  all_goals simp only [List.length_cons, List.length_drop]
  all_goals (try have := (List.dropWhile_sublist (p := nnl) (l := t)).length_le)
  all_goals omega

theorem takeWhile_len (p : UInt8 → Bool) (l : List UInt8) : l.take (l.takeWhile p).length = l.takeWhile p := by
  induction l with
  | nil => rfl
  | cons c t ih =>
    by_cases h : p c = true
    · rw [List.takeWhile_cons_of_pos h]; simp [ih]
    · rw [List.takeWhile_cons_of_neg h]; rfl

theorem sm_nm {c : UInt8} (h : sm c = true) : nm c = true := by simp [nm, h]

theorem sgn_take (l : List UInt8) : sgn l = l.take (sgn l).length := by
  unfold sgn
  split
  · simp
  · split
    · simp
    · rfl

theorem tok_take {l : List UInt8} {k : Int} {w : List UInt8} {n : Int} (h : tok l = .ok k w n) : w = l.take w.length ∧ w ≠ [] := by
  unfold tok at h
  split at h
  · rename_i hs
    have hne : l.takeWhile nm ≠ [] := by
      cases l with
      | nil => exact absurd hs (by decide)
      | cons c t => rw [List.takeWhile_cons_of_pos (show nm c = true from sm_nm hs)]; simp
    split at h
    · cases h
    · split at h <;> (cases h; exact ⟨(takeWhile_len nm l).symm, hne⟩)
  · split at h
    · rename_i hs
      have hne : l.takeWhile dg ≠ [] := by
        cases l with
        | nil => exact absurd hs (by decide)
        | cons c t => rw [List.takeWhile_cons_of_pos (show dg c = true from hs)]; simp
      split at h
      · cases h
      · cases h; exact ⟨(takeWhile_len dg l).symm, hne⟩
    · split at h
      · cases h
      · rename_i hs
        cases h; exact ⟨sgn_take l, hs⟩

theorem contains_cons (b : UInt8) (l sub : List UInt8) : Lib.contains (b :: l) sub = (sub.isPrefixOf (b :: l) || Lib.contains l sub) := by
  unfold Lib.contains
  have h := Lib.index_ge l sub
  rw [Lib.index]
  by_cases hp : sub.isPrefixOf (b :: l) = true
  · simp [hp]
  · have hp' : sub.isPrefixOf (b :: l) = false := Bool.eq_false_iff.2 hp
    rw [if_neg hp, hp', Bool.false_or]
    by_cases he : (Lib.index l sub == -1) = true
    · rw [if_pos he]
      have : Lib.index l sub = -1 := by simpa using he
      rw [this]
    · rw [if_neg he]
      have : Lib.index l sub ≠ -1 := by simpa using he
      by_cases h0 : 0 ≤ Lib.index l sub
      · rw [decide_eq_true h0, decide_eq_true (by omega)]
      · omega

theorem prefix_word : ∀ (w v rest : List UInt8), (∀ c ∈ w, c ≠ 32) → (∀ c ∈ v, c ≠ 32) → (w ++ [32]).isPrefixOf (v ++ 32 :: rest) = (v == w)
  | [], [], rest, _, _ => by simp
  | [], c :: v, rest, _, hv => by
    have hc : c ≠ 32 := hv c (by simp)
    have : ((32 : UInt8) == c) = false := by simpa using fun e => hc e.symm
    simp [List.isPrefixOf, this]
  | c :: w, [], rest, hw, _ => by
    have hc : c ≠ 32 := hw c (by simp)
    have : (c == (32 : UInt8)) = false := by simpa using hc
    simp [List.isPrefixOf, this]
  | c :: w, d :: v, rest, hw, hv => by
    have ih := prefix_word w v rest (fun x hx => hw x (by simp [hx])) (fun x hx => hv x (by simp [hx]))
    show ((c == d) && (w ++ [32]).isPrefixOf (v ++ 32 :: rest)) = (d == c && v == w)
    rw [ih, Bool.beq_comm (a := c)]

theorem contains_skip (sub : List UInt8) : ∀ (v l : List UInt8), (∀ c ∈ v, c ≠ 32) → Lib.contains (v ++ l) (32 :: sub) = Lib.contains l (32 :: sub)
  | [], _, _ => rfl
  | c :: v, l, hv => by
    have hc : c ≠ 32 := hv c (by simp)
    have h1 : ((32 : UInt8) == c) = false := by simpa using fun e => hc e.symm
    show Lib.contains (c :: (v ++ l)) (32 :: sub) = _
    rw [contains_cons, contains_skip sub v l (fun x hx => hv x (by simp [hx]))]
    simp [List.isPrefixOf, h1]

theorem contains_word (w v rest : List UInt8) (hw : ∀ c ∈ w, c ≠ 32) (hv : ∀ c ∈ v, c ≠ 32) :
    Lib.contains (32 :: (v ++ 32 :: rest)) (32 :: (w ++ [32])) = (v == w || Lib.contains (32 :: rest) (32 :: (w ++ [32]))) := by
  rw [contains_cons, contains_skip _ v _ hv]
  congr 1
  show ((32 : UInt8) == 32 && (w ++ [32]).isPrefixOf (v ++ 32 :: rest)) = (v == w)
  rw [prefix_word w v rest hw hv]
  rfl

def spaced : List (List UInt8) → List UInt8
  | [] => [32]
  | v :: r => 32 :: (v ++ spaced r)

theorem spaced_head (r : List (List UInt8)) : ∃ t, spaced r = 32 :: t := by
  cases r <;> exact ⟨_, rfl⟩

theorem contains_spaced (w : List UInt8) (hw : ∀ c ∈ w, c ≠ 32) (hne : w ≠ []) : ∀ (ws : List (List UInt8)), (∀ v ∈ ws, ∀ c ∈ v, c ≠ 32) → Lib.contains (spaced ws) (32 :: (w ++ [32])) = ws.contains w
  | [], _ => by
    show Lib.contains [32] _ = _
    rw [contains_cons]
    cases w with
    | nil => exact absurd rfl hne
    | cons a r => cases r <;> rfl
  | v :: r, h => by
    obtain ⟨t, ht⟩ := spaced_head r
    have ih := contains_spaced w hw hne r (fun x hx => h x (by simp [hx]))
    show Lib.contains (32 :: (v ++ spaced r)) _ = _
    rw [ht, contains_word w v t hw (h v (by simp)), ← ht, ih, List.contains_cons]
    congr 1
    exact Bool.beq_comm

theorem nm_ne {c : UInt8} (h : nm c = true) : c ≠ 32 := by
  rintro rfl
  exact absurd h (by decide)

def wordText : List UInt8 := [32, 97, 110, 100, 32, 98, 111, 111, 108, 32, 99, 97, 115, 101, 32, 101, 108, 115, 101, 32, 102, 97, 108, 115, 101, 32, 102, 108, 105, 112, 32, 102, 117, 110, 32, 105, 102, 32, 105, 110, 32, 105, 110, 112, 117, 116, 32, 105, 110, 116, 32, 108, 101, 116, 32, 110, 111, 116, 32, 111, 98, 115, 101, 114, 118, 101, 32, 111, 102, 32, 111, 114, 32, 112, 105, 99, 107, 32, 114, 97, 110, 103, 101, 32, 115, 99, 111, 114, 101, 32, 116, 104, 101, 110, 32, 116, 114, 117, 101, 32]
theorem wordText_eq : wordText = spaced wordList := by decide

theorem contains_isWord (w : List UInt8) (hw : ∀ c ∈ w, nm c = true) (hne : w ≠ []) : Lib.contains wordText (32 :: (w ++ [32])) = isWord w := by
  rw [wordText_eq]
  exact contains_spaced w (fun c hc => nm_ne (hw c hc)) hne wordList (by decide)

theorem val_snoc (w : List UInt8) (c : UInt8) : val (w ++ [c]) = val w * 10 + (c.toNat - 48) := by
  unfold val
  rw [List.foldl_append]
  rfl

theorem has_yes {a x : List UInt8} (r : List (List UInt8)) (h : x = a) : has (a :: r) x = true := by unfold has; subst h; simp
theorem has_no {a x : List UInt8} (r : List (List UInt8)) (h : x ≠ a) : has (a :: r) x = has r x := by
  unfold has
  rw [List.contains_cons, beq_eq_false_iff_ne.2 h, Bool.false_or]
theorem hasB_iff {l : List UInt8} {c : UInt8} : hasB l c = true ↔ c ∈ l := List.contains_iff_mem
theorem hasB_cons (b : UInt8) (l : List UInt8) (c : UInt8) : hasB (b :: l) c = (c == b || hasB l c) := List.contains_cons
theorem indexByte_has : ∀ (l : List UInt8) (c : UInt8), Lib.indexByte l c ≥ 0 ↔ hasB l c = true
  | [], c => by simp [Lib.indexByte, hasB]
  | b :: l, c => by
    have ih := indexByte_has l c
    have hge := Lib.indexByte_ge l c
    rw [Lib.indexByte, hasB_cons]
    by_cases h : (b == c) = true
    · have h' : (c == b) = true := by rw [Bool.beq_comm]; exact h
      rw [if_pos h, h']; simp
    · have h' : (c == b) = false := by rw [Bool.beq_comm]; simpa using h
      rw [if_neg h, h', Bool.false_or, ← ih]
      by_cases h2 : (Lib.indexByte l c == -1) = true
      · rw [if_pos h2]
        have : Lib.indexByte l c = -1 := by simpa using h2
        omega
      · rw [if_neg h2]
        have : Lib.indexByte l c ≠ -1 := by simpa using h2
        omega
end Go.Proofs.YtaphnbaiamnfpaaGreatDoor.Lx
namespace Go.Proofs.YtaphnbaiamnfpaaGreatDoor.Px
set_option linter.unusedVariables false
set_option linter.unusedSimpArgs false
open Lx (Tok)

inductive T where
  | mk (k : Int) (l : List T)
deriving Inhabited
inductive E where
  | mk (k n : Int) (name : List UInt8) (names : List (List UInt8)) (odds : List Int) (kids : List E) (line col : Int)
deriving Inhabited
structure Fld where
  name : List UInt8
  typ : T
  line : Int
  col : Int
deriving Inhabited
structure Fnc where
  name : List UInt8
  params : List Fld
  res : T
  body : E
  line : Int
  col : Int
deriving Inhabited
structure Pg where
  inputs : List Fld
  funs : List Fnc
  query : E
deriving Inhabited
def T.k : T → Int | .mk k _ => k
def T.l : T → List T | .mk _ l => l
def E.k : E → Int | .mk k _ _ _ _ _ _ _ => k
def E.n : E → Int | .mk _ n _ _ _ _ _ _ => n
def E.name : E → List UInt8 | .mk _ _ s _ _ _ _ _ => s
def E.names : E → List (List UInt8) | .mk _ _ _ l _ _ _ _ => l
def E.odds : E → List Int | .mk _ _ _ _ o _ _ _ => o
def E.kids : E → List E | .mk _ _ _ _ _ l _ _ => l
def E.line : E → Int | .mk _ _ _ _ _ _ a _ => a
def E.col : E → Int | .mk _ _ _ _ _ _ _ b => b

abbrev wBool : List UInt8 := [98, 111, 111, 108]
abbrev wInt : List UInt8 := [105, 110, 116]
abbrev wLet : List UInt8 := [108, 101, 116]
abbrev wIf : List UInt8 := [105, 102]
abbrev wCase : List UInt8 := [99, 97, 115, 101]
abbrev wObserve : List UInt8 := [111, 98, 115, 101, 114, 118, 101]
abbrev wScore : List UInt8 := [115, 99, 111, 114, 101]
abbrev wIn : List UInt8 := [105, 110]
abbrev wThen : List UInt8 := [116, 104, 101, 110]
abbrev wElse : List UInt8 := [101, 108, 115, 101]
abbrev wOf : List UInt8 := [111, 102]
abbrev wOr : List UInt8 := [111, 114]
abbrev wAnd : List UInt8 := [97, 110, 100]
abbrev wNot : List UInt8 := [110, 111, 116]
abbrev wNeg : List UInt8 := [110, 101, 103]
abbrev wTrue : List UInt8 := [116, 114, 117, 101]
abbrev wFalse : List UInt8 := [102, 97, 108, 115, 101]
abbrev wPick : List UInt8 := [112, 105, 99, 107]
abbrev wFlip : List UInt8 := [102, 108, 105, 112]
abbrev wRange : List UInt8 := [114, 97, 110, 103, 101]
abbrev wInput : List UInt8 := [105, 110, 112, 117, 116]
abbrev wFun : List UInt8 := [102, 117, 110]
abbrev wLp : List UInt8 := [40]
abbrev wRp : List UInt8 := [41]
abbrev wLb : List UInt8 := [91]
abbrev wRb : List UInt8 := [93]
abbrev wLc : List UInt8 := [123]
abbrev wRc : List UInt8 := [125]
abbrev wCm : List UInt8 := [44]
abbrev wSc : List UInt8 := [59]
abbrev wCl : List UInt8 := [58]
abbrev wBar : List UInt8 := [124]
abbrev wAr : List UInt8 := [61, 62]
abbrev wEq : List UInt8 := [61]
abbrev wEqEq : List UInt8 := [61, 61]
abbrev wLt : List UInt8 := [60]
abbrev wLe : List UInt8 := [60, 61]
abbrev wCc : List UInt8 := [58, 58]
abbrev wPl : List UInt8 := [43]
abbrev wMi : List UInt8 := [45]
abbrev wTi : List UInt8 := [42]
abbrev wSl : List UInt8 := [47]
abbrev wPc : List UInt8 := [37]

inductive NT where
  | typ | typs | field | fields | fun_ | expr | names | level (n : Nat) | loop (n : Nat) (left : E) | unary | atom | list (e : List UInt8) | rest (e : List UInt8) | pick | share | bound | inputs | funs | program
abbrev Ret : NT → Type
  | .typ => T
  | .typs => List T
  | .field => Fld
  | .fields => List Fld
  | .fun_ => Fnc
  | .names => List (List UInt8)
  | .list _ => List E
  | .rest _ => List E
  | .pick => List Int × List E
  | .share => List Int
  | .bound => Int
  | .inputs => List Fld
  | .funs => List Fnc
  | .program => Pg
  | .expr => E
  | .level _ => E
  | .loop _ _ => E
  | .unary => E
  | .atom => E
inductive Pm (α : Type) where
  | ret (a : α)
  | fail
  | tst (s : List UInt8) (y n : Pm α)
  | knd (k : Int) (y n : Pm α)
  | look (f : Tok → Pm α)
  | next (m : Pm α)
  | call (q : NT) (f : Ret q → Pm α)
namespace Pm
variable {α : Type}
abbrev take (s : List UInt8) (y n : Pm α) : Pm α := .tst s (.next y) n
abbrev want (s : List UInt8) (m : Pm α) : Pm α := .tst s (.next m) .fail
abbrev kind (k : Int) (f : Tok → Pm α) : Pm α := .knd k (.look fun t => .next (f t)) .fail
abbrev any (l : List (List UInt8)) (y n : Pm α) : Pm α := l.foldr (fun s acc => .tst s y acc) n
end Pm
open Pm
def opsOf : Nat → List (List UInt8)
  | 0 => [wOr]
  | 1 => [wAnd]
  | 2 => [wEqEq, wLt, wLe]
  | 3 => [wCc]
  | 4 => [wPl, wMi]
  | 5 => [wTi, wSl, wPc]
  | _ => []
def lets (t : Tok) (ns : List (List UInt8)) : Pm E :=
  want wEq (.call .expr fun x => want wIn (.call .expr fun y => .ret (.mk 8 0 [] ns [] [x, y] t.line t.col)))
def funRest (t : Tok) (ps : List Fld) : Pm Fnc :=
  want wCl (.call .typ fun ty => want wEq (.call .expr fun b => want wSc (.ret ⟨t.text, ps, ty, b, t.line, t.col⟩)))
abbrev caseK2 (t : Tok) (x : E) : Pm E :=
  .call .expr fun y => want wBar (kind 1 fun a => want wCc (kind 1 fun b => want wAr (.call .expr fun z => .ret (E.mk 10 0 [] [a.text, b.text] [] [x, y, z] t.line t.col))))
abbrev caseK (t : Tok) : Pm E := .call .expr fun x => want wOf (want wLb (want wRb (want wAr (caseK2 t x))))
def body : (q : NT) → Pm (Ret q)
  | .typ => take wBool (.ret (T.mk 1 [])) (take wInt (.ret (T.mk 2 [])) (take wLb (.call .typ fun t => want wRb (.ret (T.mk 4 [t])))
      (want wLp (.call .typ fun a => want wCm (.call .typ fun b => .call .typs fun r => .ret (T.mk 3 (a :: b :: r)))))))
  | .typs => take wCm (.call .typ fun a => .call .typs fun r => .ret (a :: r)) (want wRp (.ret []))
  | .field => kind 1 fun t => want wCl (.call .typ fun ty => .ret ⟨t.text, ty, t.line, t.col⟩)
  | .fields => take wCm (.call .field fun a => .call .fields fun r => .ret (a :: r)) (want wRp (.ret []))
  | .fun_ => kind 1 fun t => want wLp (take wRp (funRest t []) (.call .field fun a => .call .fields fun r => funRest t (a :: r)))
  | .names => take wCm (kind 1 fun a => .call .names fun r => .ret (a.text :: r)) (want wRp (.ret []))
  | .expr => .look fun t =>
      take wLet (take wLp (kind 1 fun a => want wCm (kind 1 fun b => .call .names fun r => lets t (a.text :: b.text :: r))) (kind 1 fun a => lets t [a.text]))
      (take wIf (.call .expr fun x => want wThen (.call .expr fun y => want wElse (.call .expr fun z => .ret (E.mk 9 0 [] [] [] [x, y, z] t.line t.col))))
      (take wCase (caseK t)
      (take wObserve (.call .expr fun x => want wIn (.call .expr fun y => .ret (E.mk 11 0 [] [] [] [x, y] t.line t.col)))
      (take wScore (.call .share fun o => want wIn (.call .expr fun x => .ret (E.mk 12 0 [] [] o [x] t.line t.col)))
      (.call (.level 0) .ret)))))
  | .level n => match n with
    | 0 => .call (.level 1) fun l => .call (.loop 0 l) .ret
    | 1 => .call (.level 2) fun l => .call (.loop 1 l) .ret
    | 2 => .call (.level 3) fun l => .call (.loop 2 l) .ret
    | 3 => .call (.level 4) fun l => .call (.loop 3 l) .ret
    | 4 => .call (.level 5) fun l => .call (.loop 4 l) .ret
    | 5 => .call (.level 6) fun l => .call (.loop 5 l) .ret
    | _ => .call .unary .ret
  | .loop n left => any (opsOf n) (.look fun t => .next (.call (.level (if n = 3 then 3 else n + 1)) fun r =>
      if n = 2 ∨ n = 3 then .ret (E.mk 7 0 t.text [] [] [left, r] t.line t.col) else .call (.loop n (E.mk 7 0 t.text [] [] [left, r] t.line t.col)) .ret)) (.ret left)
  | .unary => .look fun t => take wNot (.call .unary fun x => .ret (E.mk 7 0 wNot [] [] [x] t.line t.col)) (take wMi (.call .unary fun x => .ret (E.mk 7 0 wNeg [] [] [x] t.line t.col)) (.call .atom .ret))
  | .atom => .look fun t =>
      .knd 3 (.next (.ret (E.mk 1 t.n [] [] [] [] t.line t.col)))
      (.knd 1 (.next (take wLp (.call (.list wRp) fun ks => .ret (E.mk 4 0 t.text [] [] ks t.line t.col)) (.ret (E.mk 3 0 t.text [] [] [] t.line t.col))))
      (take wTrue (.ret (E.mk 2 1 [] [] [] [] t.line t.col))
      (take wFalse (.ret (E.mk 2 0 [] [] [] [] t.line t.col))
      (take wLp (.call .expr fun a => take wRp (.ret a) (want wCm (.call .expr fun b => .call (.rest wRp) fun r => .ret (E.mk 5 0 [] [] [] (a :: b :: r) t.line t.col))))
      (take wLb (.call (.list wRb) fun ks => .ret (E.mk 6 0 [] [] [] ks t.line t.col))
      (take wPick (want wLc (.call .pick fun p => .ret (E.mk 13 0 [] [] p.1 p.2 t.line t.col)))
      (take wFlip (want wLp (.call .share fun o => want wRp (.ret (E.mk 14 0 [] [] o [] t.line t.col))))
      (take wRange (want wLp (.call .bound fun a => want wCm (.call .bound fun b => want wRp (.ret (E.mk 15 0 [] [] [a, b] [] t.line t.col)))))
      .fail))))))))
  | .list e => take e (.ret []) (.call .expr fun a => .call (.rest e) fun r => .ret (a :: r))
  | .rest e => take wCm (.call .expr fun a => .call (.rest e) fun r => .ret (a :: r)) (want e (.ret []))
  | .pick => kind 3 fun t => want wCl (.call .expr fun x => take wCm (.call .pick fun p => .ret (t.n :: p.1, x :: p.2)) (want wRc (.ret ([t.n], [x]))))
  | .share => kind 3 fun p => want wSl (kind 3 fun q => .ret [p.n, q.n])
  | .bound => take wMi (kind 3 fun t => .ret (-t.n)) (kind 3 fun t => .ret t.n)
  | .inputs => take wInput (.call .field fun a => want wSc (.call .inputs fun r => .ret (a :: r))) (.ret [])
  | .funs => take wFun (.call .fun_ fun a => .call .funs fun r => .ret (a :: r)) (.ret [])
  | .program => .call .inputs fun a => .call .funs fun b => .call .expr fun q => .ret ⟨a, b, q⟩

inductive Rs (α : Type) where
  | ok (a : α) (i : Nat)
  | no (i : Nat)
  | out
def tk (l : List Tok) (i : Nat) : Tok := l.getD i ⟨0, [], 0, 0, 0⟩
def isT (s : List UInt8) (t : Tok) : Bool := (t.kind == 4 || t.kind == 2) && t.text == s
def run {α : Type} (P : (q : NT) → Nat → Rs (Ret q)) (l : List Tok) : Pm α → Nat → Rs α
  | .ret a, i => .ok a i
  | .fail, i => .no i
  | .tst s y n, i => bif isT s (tk l i) then run P l y i else run P l n i
  | .knd k y n, i => bif (tk l i).kind == k then run P l y i else run P l n i
  | .look f, i => run P l (f (tk l i)) i
  | .next m, i => run P l m (i + 1)
  | .call q f, i => match P q i with
    | .ok a j => run P l (f a) j
    | .no j => .no j
    | .out => .out
def parse (l : List Tok) : Nat → (q : NT) → Nat → Rs (Ret q)
  | 0 => fun _ _ => .out
  | n + 1 => fun q i => run (parse l n) l (body q) i

inductive Adm (rank : NT → Nat) (r : Nat) {α : Type} : Bool → Bool → Pm α → Prop
  | ret (t c : Bool) (a : α) : Adm rank r t c (.ret a)
  | fail (t c : Bool) : Adm rank r t c .fail
  | tst (t c : Bool) (s : List UInt8) (y n : Pm α) : Adm rank r true c y → Adm rank r t c n → Adm rank r t c (.tst s y n)
  | knd (t c : Bool) (k : Int) (y n : Pm α) : k ≠ 5 → k ≠ 0 → Adm rank r true c y → Adm rank r t c n → Adm rank r t c (.knd k y n)
  | look (t c : Bool) (f : Tok → Pm α) : (∀ x, Adm rank r t c (f x)) → Adm rank r t c (.look f)
  | next (c : Bool) (m : Pm α) : Adm rank r false true m → Adm rank r true c (.next m)
  | call (t c : Bool) (q : NT) (f : Ret q → Pm α) : (c = true ∨ rank q < r) → (∀ a, Adm rank r false c (f a)) → Adm rank r t c (.call q f)
def rank : NT → Nat
  | .program => 12
  | .list _ => 11
  | .expr => 10
  | .level n => match n with
    | 0 => 9
    | 1 => 8
    | 2 => 7
    | 3 => 6
    | 4 => 5
    | 5 => 4
    | _ => 3
  | .unary => 2
  | .atom => 1
  | _ => 0
structure GoodL (l : List Tok) : Prop where
  last : ∀ i, i < l.length → ((tk l i).kind = 5 ↔ i + 1 = l.length)
def Fine {α : Type} (l : List Tok) (i : Nat) : Rs α → Prop
  | .ok _ j => i ≤ j ∧ j < l.length
  | .no j => i ≤ j ∧ j < l.length
  | .out => True
theorem isT_kind {s : List UInt8} {t : Tok} (h : isT s t = true) : t.kind ≠ 5 := by
  unfold isT at h
  rw [Bool.and_eq_true, Bool.or_eq_true, beq_iff_eq, beq_iff_eq] at h
  omega
theorem Fine.le {α : Type} {l : List Tok} {i j : Nat} {r : Rs α} (hij : i ≤ j) (h : Fine l j r) : Fine l i r := by
  cases r with
  | ok a m => exact ⟨Nat.le_trans hij h.1, h.2⟩
  | no m => exact ⟨Nat.le_trans hij h.1, h.2⟩
  | out => trivial
end Go.Proofs.YtaphnbaiamnfpaaGreatDoor.Px
namespace Go.Proofs.YtaphnbaiamnfpaaGreatDoor.Px
set_option linter.unusedVariables false
set_option linter.unusedSimpArgs false
open Lx (Tok)
open Pm

def thenR {α β : Type} (r : Rs β) (g : β → Nat → Rs α) : Rs α :=
  match r with
  | .ok a j => g a j
  | .no j => .no j
  | .out => .out
def Pm.bind {α β : Type} : Pm α → (α → Pm β) → Pm β
  | .ret a, f => f a
  | .fail, f => .fail
  | .tst s y n, f => .tst s (y.bind f) (n.bind f)
  | .knd k y n, f => .knd k (y.bind f) (n.bind f)
  | .look g, f => .look fun t => (g t).bind f
  | .next m, f => .next (m.bind f)
  | .call q g, f => .call q fun a => (g a).bind f
section
variable {α β : Type} {P P' : (q : NT) → Nat → Rs (Ret q)} {l : List Tok}
theorem run_call (q : NT) (f : Ret q → Pm α) (i : Nat) : run P l (.call q f) i = thenR (P q i) fun a j => run P l (f a) j := by
  rw [run]
  unfold thenR
  cases P q i <;> rfl
theorem run_bind (f : α → Pm β) : ∀ (m : Pm α) (i : Nat), run P l (m.bind f) i = thenR (run P l m i) fun a j => run P l (f a) j
  | .ret a, i => rfl
  | .fail, i => rfl
  | .tst s y n, i => by
    rw [Pm.bind, run, run]
    cases isT s (tk l i)
    · exact run_bind f n i
    · exact run_bind f y i
  | .knd k y n, i => by
    rw [Pm.bind, run, run]
    cases (tk l i).kind == k
    · exact run_bind f n i
    · exact run_bind f y i
  | .look g, i => by rw [Pm.bind, run, run]; exact run_bind f (g (tk l i)) i
  | .next m, i => by rw [Pm.bind, run, run]; exact run_bind f m (i + 1)
  | .call q g, i => by
    rw [Pm.bind, run_call, run_call]
    cases P q i with
    | ok a j => exact run_bind f (g a) j
    | no j => rfl
    | out => rfl
end
def pw (l : List Tok) : (q : NT) → Nat → Rs (Ret q) := parse l (l.length * 16 + 13)
section
variable {l : List Tok}
theorem nx (hl : GoodL l) {i : Nat} {s : List UInt8} (hi : i < l.length) (h : isT s (tk l i) = true) : i + 1 < l.length := by
  have h1 := isT_kind h
  have h2 := hl.last i hi
  have : ¬ (i + 1 = l.length) := fun e => h1 (h2.2 e)
  omega
end
inductive Eat {α : Type} : Bool → Pm α → Prop
  | ret (a : α) : Eat true (.ret a)
  | fail (c : Bool) : Eat c .fail
  | tst (c : Bool) (s : List UInt8) (y n : Pm α) : Eat c y → Eat c n → Eat c (.tst s y n)
  | knd (c : Bool) (k : Int) (y n : Pm α) : Eat c y → Eat c n → Eat c (.knd k y n)
  | look (c : Bool) (f : Tok → Pm α) : (∀ x, Eat c (f x)) → Eat c (.look f)
  | next (c : Bool) (m : Pm α) : Eat true m → Eat c (.next m)
  | call (c : Bool) (q : NT) (f : Ret q → Pm α) : (∀ a, Eat c (f a)) → Eat c (.call q f)
  | eat (c : Bool) (q : NT) (f : Ret q → Pm α) : (match q with | .expr | .level _ | .unary | .atom => True | _ => False) → (∀ a, Eat true (f a)) → Eat c (.call q f)
def eats : NT → Prop
  | .expr | .level _ | .unary | .atom => True
  | _ => False
end Go.Proofs.YtaphnbaiamnfpaaGreatDoor.Px
/- What is read is no greater than what was read of the text. -/
namespace Go.Proofs.YtaphnbaiamnfpaaGreatDoor.Px
set_option linter.unusedVariables false
open Lx (Tok)
open Pm

mutual
def wE : E → Nat
  | .mk _ _ _ ns os ks _ _ => 1 + ns.length + os.length + wEs ks
def wEs : List E → Nat
  | [] => 0
  | x :: r => wE x + wEs r
end
mutual
def wT : T → Nat
  | .mk _ l => 1 + wTs l
def wTs : List T → Nat
  | [] => 0
  | x :: r => wT x + wTs r
end
def wF (f : Fld) : Nat := wT f.typ
def wFs : List Fld → Nat
  | [] => 0
  | x :: r => wF x + wFs r
def wFn (f : Fnc) : Nat := 1 + wFs f.params + wT f.res + wE f.body
def wFns : List Fnc → Nat
  | [] => 0
  | x :: r => wFn x + wFns r
theorem wE_mk (k n : Int) (s : List UInt8) (ns : List (List UInt8)) (os : List Int) (ks : List E) (a b : Int) : wE (.mk k n s ns os ks a b) = 1 + ns.length + os.length + wEs ks := by rw [wE]
theorem wT_mk (k : Int) (l : List T) : wT (.mk k l) = 1 + wTs l := by rw [wT]
theorem wEs_cons (x : E) (r : List E) : wEs (x :: r) = wE x + wEs r := by rw [wEs]
theorem wEs_nil : wEs [] = 0 := by rw [wEs]
theorem wTs_cons (x : T) (r : List T) : wTs (x :: r) = wT x + wTs r := by rw [wTs]
theorem wTs_nil : wTs [] = 0 := by rw [wTs]
def wQ : (q : NT) → Ret q → Nat
  | .typ, t => wT t
  | .typs, l => wTs l
  | .field, f => wF f
  | .fields, l => wFs l
  | .fun_, f => wFn f
  | .names, l => l.length
  | .list _, l => wEs l
  | .rest _, l => wEs l
  | .pick, p => p.1.length + wEs p.2
  | .share, l => l.length
  | .bound, _ => 1
  | .inputs, l => wFs l
  | .funs, l => wFns l
  | .program, p => wFs p.inputs + wFns p.funs + wE p.query
  | .expr, e => wE e
  | .level _, e => wE e
  | .loop _ _, e => wE e
  | .unary, e => wE e
  | .atom, e => wE e
def wB : NT → Nat
  | .loop _ left => wE left
  | _ => 0
inductive Wt {α : Type} (w : α → Nat) : Nat → Pm α → Prop
  | ret (c : Nat) (a : α) : w a ≤ c → Wt w c (.ret a)
  | fail (c : Nat) : Wt w c .fail
  | tst (c : Nat) (s : List UInt8) (y n : Pm α) : Wt w c y → Wt w c n → Wt w c (.tst s y n)
  | knd (c : Nat) (k : Int) (y n : Pm α) : Wt w c y → Wt w c n → Wt w c (.knd k y n)
  | look (c : Nat) (f : Tok → Pm α) : (∀ x, Wt w c (f x)) → Wt w c (.look f)
  | next (c : Nat) (m : Pm α) : Wt w (c + 1) m → Wt w c (.next m)
  | call (c : Nat) (q : NT) (f : Ret q → Pm α) : (∀ a v, wQ q a ≤ wB q + v → Wt w (c + v) (f a)) → Wt w c (.call q f)
theorem wE_pos (e : E) : 1 ≤ wE e := by cases e; rw [wE]; omega
end Go.Proofs.YtaphnbaiamnfpaaGreatDoor.Px
/- A program of nothing but its query. -/
namespace Go.Proofs.YtaphnbaiamnfpaaGreatDoor.Px
set_option linter.unusedVariables false
open Lx (Tok)
open Pm

section
variable {l : List Tok}
structure NoStart (t : Tok) : Prop where
  k3 : t.kind ≠ 3
  k1 : t.kind ≠ 1
  words : ∀ s, s ∈ [wLet, wIf, wCase, wObserve, wScore, wNot, wMi, wTrue, wFalse, wLp, wLb, wPick, wFlip, wRange] → isT s t = false
end
end Go.Proofs.YtaphnbaiamnfpaaGreatDoor.Px
namespace Go.Proofs.YtaphnbaiamnfpaaGreatDoor.Lx

theorem tok_bad {l : List UInt8} {e : Int} {w : List UInt8} (h : tok l = .bad e w) : e ≠ 0 := by
  unfold tok at h
  split at h
  · split at h
    · cases h; decide
    · split at h <;> cases h
  · split at h
    · split at h
      · cases h; decide
      · cases h
    · split at h
      · cases h; decide
      · cases h

theorem scan_err : ∀ (n : Nat) (l : List UInt8) (line col : Int) (f : Flt), l.length ≤ n → scan l line col = .error f → f.e ≠ 0 := by
  intro n
  induction n with
  | zero =>
    intro l line col f hl h
    cases l with
    | nil => rw [scan] at h; cases h
    | cons c t => simp at hl
  | succ n ih =>
    intro l line col f hl h
    cases l with
    | nil => rw [scan] at h; cases h
    | cons c t =>
      rw [List.length_cons] at hl
      rw [scan] at h
      by_cases c10 : c.toNat = 10
      · rw [if_pos c10] at h
        exact ih t _ _ f (by omega) h
      · rw [if_neg c10] at h
        by_cases cw : ws c = true
        · rw [if_pos cw] at h
          exact ih t _ _ f (by omega) h
        · rw [if_neg cw] at h
          by_cases c35 : c.toNat = 35
          · rw [if_pos c35] at h
            have hd : (t.dropWhile nnl).length ≤ t.length := (List.dropWhile_sublist nnl).length_le
            exact ih (t.dropWhile nnl) _ _ f (by omega) h
          · rw [if_neg c35] at h
            cases htk : tok (c :: t) with
            | bad e w =>
              rw [htk] at h
              cases h
              exact tok_bad htk
            | ok k w m =>
              rw [htk] at h
              simp only [] at h
              cases hs : scan (t.drop (w.length - 1)) line (col + w.length) with
              | error f' =>
                rw [hs] at h
                cases h
                exact ih (t.drop (w.length - 1)) _ _ _ (by rw [List.length_drop]; omega) hs
              | ok l2 => rw [hs] at h; cases h
end Go.Proofs.YtaphnbaiamnfpaaGreatDoor.Lx
namespace Go.Proofs.YtaphnbaiamnfpaaGreatDoor.Lx

theorem takeWhile_all (p : UInt8 → Bool) : ∀ (l : List UInt8) (x : UInt8), x ∈ l.takeWhile p → p x = true
  | [], x, h => by simp at h
  | c :: t, x, h => by
    by_cases hc : p c = true
    · rw [List.takeWhile_cons_of_pos hc] at h
      rcases List.mem_cons.1 h with h | h
      · rw [h]; exact hc
      · exact takeWhile_all p t x h
    · rw [List.takeWhile_cons_of_neg hc] at h; simp at h
theorem takeWhile_app (p : UInt8 → Bool) : ∀ (w z : List UInt8), (∀ c ∈ w, p c = true) → (z = [] ∨ ∃ d t, z = d :: t ∧ p d = false) → (w ++ z).takeWhile p = w ∧ (w ++ z).dropWhile p = z
  | [], z, _, hz => by
    rcases hz with rfl | ⟨d, t, rfl, hd⟩
    · exact ⟨rfl, rfl⟩
    · show (d :: t).takeWhile p = [] ∧ (d :: t).dropWhile p = d :: t
      have hd' : ¬ p d = true := by rw [hd]; decide
      rw [List.takeWhile_cons_of_neg hd', List.dropWhile_cons_of_neg hd']
      exact ⟨rfl, rfl⟩
  | c :: w, z, hw, hz => by
    have ih := takeWhile_app p w z (fun x hx => hw x (by simp [hx])) hz
    have hc := hw c (by simp)
    show (c :: (w ++ z)).takeWhile p = c :: w ∧ (c :: (w ++ z)).dropWhile p = z
    rw [List.takeWhile_cons_of_pos hc, List.dropWhile_cons_of_pos hc, ih.1, ih.2]
    exact ⟨rfl, rfl⟩
theorem takeWhile_next (p : UInt8 → Bool) : ∀ (l : List UInt8) (d : UInt8) (t : List UInt8), l.drop (l.takeWhile p).length = d :: t → p d = false
  | [], d, t, h => by simp at h
  | c :: l, d, t, h => by
    by_cases hc : p c = true
    · rw [List.takeWhile_cons_of_pos hc] at h
      exact takeWhile_next p l d t h
    · rw [List.takeWhile_cons_of_neg hc] at h
      cases h
      simpa using hc

theorem head_dropWhile (p : UInt8 → Bool) : ∀ (l : List UInt8) {c : UInt8} {t : List UInt8}, l.dropWhile p = c :: t → p c = false
  | [], c, t, h => by simp at h
  | b :: l, c, t, h => by
    by_cases hb : p b = true
    · rw [List.dropWhile_cons_of_pos hb] at h
      exact head_dropWhile p l h
    · rw [List.dropWhile_cons_of_neg hb] at h
      cases h
      simpa using hb

def Stop (l w z : List UInt8) : Prop := z = [] ∨ ∃ d t, z = d :: t ∧ (d = 32 ∨ d = 10 ∨ ∃ t', l.drop w.length = d :: t')

theorem Stop.no {l w z : List UInt8} (p : UInt8 → Bool) (hw : w = l.takeWhile p) (h32 : p 32 = false) (h10 : p 10 = false) (h : Stop l w z) : z = [] ∨ ∃ d t, z = d :: t ∧ p d = false := by
  rcases h with h | ⟨d, t, h, h2⟩
  · exact .inl h
  · refine .inr ⟨d, t, h, ?_⟩
    rcases h2 with rfl | rfl | ⟨t', h2⟩
    · exact h32
    · exact h10
    · rw [hw] at h2
      exact takeWhile_next p l d t' h2

theorem headD_app {w : List UInt8} (hw : w ≠ []) (z : List UInt8) : (w ++ z).headD 0 = w.headD 0 := by
  cases w with
  | nil => exact absurd rfl hw
  | cons c t => rfl
theorem headD_takeWhile {l : List UInt8} (p : UInt8 → Bool) (h : l.takeWhile p ≠ []) : (l.takeWhile p).headD 0 = l.headD 0 := by
  cases l with
  | nil => exact absurd rfl h
  | cons c t =>
    by_cases hc : p c = true
    · rw [List.takeWhile_cons_of_pos hc]; rfl
    · rw [List.takeWhile_cons_of_neg hc] at h; exact absurd rfl h

theorem has_twos {x : List UInt8} (h : has twos x = true) : ∃ a b, x = [a, b] ∧ hasB ones a = true ∧ b ≠ 32 ∧ b ≠ 10 ∧ sm a = false ∧ dg a = false := by
  have hm : x ∈ twos := List.contains_iff_mem.1 h
  simp only [twos, List.mem_cons, List.not_mem_nil, or_false] at hm
  rcases hm with rfl | rfl | rfl | rfl <;> exact ⟨_, _, rfl, by decide, by decide, by decide, by decide, by decide⟩

theorem sgn_ext {l w z : List UInt8} (hw : w = sgn l) (hne : w ≠ []) (h : Stop l w z) : sgn (w ++ z) = w := by
  unfold sgn at hw
  by_cases h2 : has twos (l.take 2) = true
  · rw [if_pos h2] at hw
    obtain ⟨a, b, hab, _⟩ := has_twos h2
    rw [hab] at hw
    rw [hab] at h2
    subst hw
    unfold sgn
    have : ([a, b] ++ z).take 2 = [a, b] := rfl
    rw [this, if_pos h2]
  · rw [if_neg h2] at hw
    by_cases h1 : hasB ones (l.headD 0) = true
    · rw [if_pos h1] at hw
      cases l with
      | nil => rw [hw] at hne; exact absurd rfl hne
      | cons c t =>
        have hwc : w = [c] := hw
        subst hwc
        have hc : hasB ones c = true := h1
        unfold sgn
        have ht2 : ¬ has twos (([c] ++ z).take 2) = true := by
          intro h3
          obtain ⟨a, b, hab, _, hb1, hb2, _⟩ := has_twos h3
          rcases h with rfl | ⟨d, t2, rfl, h4⟩
          · cases hab
          · have : d = b := by
              have : [c, d] = [a, b] := hab
              injection this with _ this
              injection this
            rcases h4 with e | e | ⟨t', h4⟩
            · exact hb1 (this ▸ e)
            · exact hb2 (this ▸ e)
            · have hd : t = d :: t' := h4
              apply h2
              rw [hd]
              exact h3
        rw [if_neg ht2, if_pos (show hasB ones (([c] ++ z).headD 0) = true from hc)]
        rfl
    · rw [if_neg h1] at hw
      exact absurd hw hne

theorem tok_ext {l w z : List UInt8} {k n : Int} (h : tok l = .ok k w n) (hz : Stop l w z) : tok (w ++ z) = .ok k w n := by
  obtain ⟨_, hne⟩ := tok_take h
  unfold tok at h
  by_cases h1 : sm (l.headD 0) = true
  · rw [if_pos h1] at h
    have hw : w = l.takeWhile nm := by
      split at h
      · cases h
      · split at h <;> (cases h; rfl)
    have htw := takeWhile_app nm w z (by rw [hw]; exact takeWhile_all nm l) (hz.no nm hw (by decide) (by decide))
    unfold tok
    rw [headD_app hne, hw, headD_takeWhile nm (hw ▸ hne), if_pos h1, ← hw, htw.1]
    rw [← hw] at h
    exact h
  · rw [if_neg h1] at h
    by_cases h2 : dg (l.headD 0) = true
    · rw [if_pos h2] at h
      have hw : w = l.takeWhile dg := by
        split at h
        · cases h
        · cases h; rfl
      have htw := takeWhile_app dg w z (by rw [hw]; exact takeWhile_all dg l) (hz.no dg hw (by decide) (by decide))
      unfold tok
      rw [headD_app hne, hw, headD_takeWhile dg (hw ▸ hne), if_neg h1, if_pos h2, ← hw, htw.1]
      rw [← hw] at h
      exact h
    · rw [if_neg h2] at h
      have hw : w = sgn l := by
        split at h
        · cases h
        · cases h; rfl
      have hh : w.headD 0 = l.headD 0 := by
        have := sgn_take l
        rw [← hw] at this
        cases l with
        | nil => rw [this] at hne; simp at hne
        | cons c t =>
          cases w with
          | nil => exact absurd rfl hne
          | cons a r => rw [List.length_cons, List.take_succ_cons] at this; injection this with e _
      have hs := sgn_ext hw hne hz
      unfold tok
      rw [headD_app hne, hh, if_neg h1, if_neg h2, hs, if_neg hne]
      rw [← hw, if_neg hne] at h
      exact h

def pl : List UInt8 → Nat → Nat
  | _, 0 => 0
  | [], _ => 0
  | c :: t, n + 1 => 1 + pl t (if c.toNat = 10 then n else n + 1)

theorem pl_zero (l : List UInt8) : pl l 0 = 0 := by cases l <;> rfl
theorem pl_nl {c : UInt8} (h : c.toNat = 10) (t : List UInt8) (n : Nat) : pl (c :: t) (n + 1) = 1 + pl t n := by
  rw [pl, if_pos h]
theorem pl_skip : ∀ (u t : List UInt8) (n : Nat), (∀ c ∈ u, c.toNat ≠ 10) → pl (u ++ t) (n + 1) = u.length + pl t (n + 1)
  | [], t, n, _ => by simp
  | c :: u, t, n, h => by
    show pl (c :: (u ++ t)) (n + 1) = _
    rw [pl, if_neg (h c (by simp)), pl_skip u t n (fun x hx => h x (by simp [hx])), List.length_cons]
    omega

def Hd (r l : List UInt8) : Prop := r = [] ∨ ∃ d t t', r = d :: t ∧ l = d :: t'

theorem Hd.app {r l : List UInt8} (p : Nat) (h : Hd r (l.drop p)) : Hd (l.take p ++ r) l := by
  cases p with
  | zero => simpa using h
  | succ p =>
    cases l with
    | nil =>
      rcases h with rfl | ⟨d, t, t', _, h⟩
      · exact .inl rfl
      · simp at h
    | cons c l => exact .inr ⟨c, l.take p ++ r, l, rfl, rfl⟩

theorem tok_nonl {l : List UInt8} {k : Int} {w : List UInt8} {n : Int} (h : tok l = .ok k w n) : ∀ c ∈ w, c.toNat ≠ 10 := by
  have hnm : ∀ c : UInt8, nm c = true → c.toNat ≠ 10 := by
    intro c hc e
    simp [nm, sm, dg, e] at hc
  unfold tok at h
  by_cases h1 : sm (l.headD 0) = true
  · rw [if_pos h1] at h
    have hw : w = l.takeWhile nm := by
      split at h
      · cases h
      · split at h <;> (cases h; rfl)
    rw [hw]
    exact fun c hc => hnm c (takeWhile_all nm l c hc)
  · rw [if_neg h1] at h
    by_cases h2 : dg (l.headD 0) = true
    · rw [if_pos h2] at h
      have hw : w = l.takeWhile dg := by
        split at h
        · cases h
        · cases h; rfl
      rw [hw]
      exact fun c hc => hnm c (by have := takeWhile_all dg l c hc; simp [nm, this])
    · rw [if_neg h2] at h
      have hw : w = sgn l := by
        split at h
        · cases h
        · cases h; rfl
      rw [hw]
      unfold sgn
      by_cases h3 : has twos (l.take 2) = true
      · rw [if_pos h3]
        have hm : l.take 2 ∈ twos := List.contains_iff_mem.1 h3
        have : ∀ x ∈ twos, ∀ c ∈ x, c.toNat ≠ 10 := by decide
        exact this _ hm
      · rw [if_neg h3]
        by_cases h4 : hasB ones (l.headD 0) = true
        · rw [if_pos h4]
          cases l with
          | nil => simp
          | cons c t =>
            have : ∀ x ∈ ones, x.toNat ≠ 10 := by decide
            intro x hx
            have : x = c := by simpa using hx
            rw [this]
            exact (by assumption : ∀ x ∈ ones, x.toNat ≠ 10) c (hasB_iff.1 h4)
        · rw [if_neg h4]; simp

end Go.Proofs.YtaphnbaiamnfpaaGreatDoor.Lx
namespace Go.Proofs.YtaphnbaiamnfpaaGreatDoor.Lx

def nls : List UInt8 → Nat
  | [] => 0
  | c :: t => (if c.toNat = 10 then 1 else 0) + nls t
def put (pre : List Tok) : Except Flt (List Tok) → Except Flt (List Tok)
  | .error g => .error g
  | .ok ts => .ok (pre ++ ts)
theorem put_nil (x : Except Flt (List Tok)) : put [] x = x := by cases x <;> rfl

def shTok (n : Int) (t : Tok) : Tok := ⟨t.kind, t.text, t.n, t.line + n, t.col⟩
def sh (n : Int) : Except Flt (List Tok) → Except Flt (List Tok)
  | .error g => .error ⟨g.e, g.text, g.line + n, g.col⟩
  | .ok ts => .ok (ts.map (shTok n))

end Go.Proofs.YtaphnbaiamnfpaaGreatDoor.Lx
namespace Go.Proofs.YtaphnbaiamnfpaaGreatDoor.Lx

def bare (t : Tok) : Int × List UInt8 × Int := (t.kind, t.text, t.n)

inductive Good : List Tok → Prop where
  | fin (line col : Int) : Good [⟨5, [], 0, line, col⟩]
  | tok (k : Int) (w : List UInt8) (n line col : Int) (l : List UInt8) (r : List Tok) : tok l = .ok k w n → (∃ c t, w = c :: t ∧ c.toNat ≠ 10 ∧ ws c = false ∧ c.toNat ≠ 35) → Good r → Good (⟨k, w, n, line, col⟩ :: r)

def isTok (t : Tok) : Bool := decide (t.kind ≠ 5)
def joinT : List Tok → List UInt8
  | [] => []
  | [_] => []
  | [a, _] => a.text
  | a :: r => a.text ++ 32 :: joinT r

end Go.Proofs.YtaphnbaiamnfpaaGreatDoor.Lx
namespace Go.Proofs.YtaphnbaiamnfpaaGreatDoor.Lx
set_option linter.unusedVariables false
set_option linter.unusedSimpArgs false
open Px (tk)

theorem put_put (a b : List Tok) (x : Except Flt (List Tok)) : put a (put b x) = put (a ++ b) x := by
  cases x with
  | error g => rfl
  | ok ts => show Except.ok _ = Except.ok _; rw [List.append_assoc]
structure At (l : List UInt8) (line col : Int) (ts : List Tok) (i p : Nat) : Prop where
  le : p ≤ l.length
  tail : scan (l.drop p) (tk ts i).line (tk ts i).col = .ok (ts.drop i)
  what : (l.drop p = [] ∧ (tk ts i).kind = 5) ∨ (∃ c t, l.drop p = c :: t ∧ c.toNat ≠ 10 ∧ ws c = false ∧ c.toNat ≠ 35) ∧ tok (l.drop p) = .ok (tk ts i).kind (tk ts i).text (tk ts i).n
  ln : line ≤ (tk ts i).line
  hi : (tk ts i).line ≤ line + (l.length : Int)
  pos : (p : Int) = pl l ((tk ts i).line - line).toNat + (if (tk ts i).line = line then (tk ts i).col - col else (tk ts i).col - 1)
  go : ∀ r, Hd r (l.drop p) → scan (l.take p ++ r) line col = put (ts.take i) (scan r (tk ts i).line (tk ts i).col)

theorem scan_at : ∀ (m : Nat) (l : List UInt8) (line col : Int) (ts : List Tok), l.length ≤ m → scan l line col = .ok ts → ∀ i, i < ts.length → ∃ p, At l line col ts i p := by
  intro m
  induction m with
  | zero =>
    intro l line col ts hl h i hi
    cases l with
    | nil =>
      rw [scan] at h
      cases h
      obtain rfl : i = 0 := by simpa using hi
      refine ⟨0, Nat.le_refl _, by rw [List.drop_nil, scan]; rfl, .inl ⟨rfl, rfl⟩, Int.le_refl _, by simp [tk]; try omega, by simp [tk, pl_zero], fun r _ => ?_⟩
      show scan ([] ++ r) line col = put [] _
      rw [put_nil]
      rfl
    | cons c t => simp at hl
  | succ m ih =>
    intro l line col ts hl h i hi
    cases l with
    | nil =>
      rw [scan] at h
      cases h
      obtain rfl : i = 0 := by simpa using hi
      refine ⟨0, Nat.le_refl _, by rw [List.drop_nil, scan]; rfl, .inl ⟨rfl, rfl⟩, Int.le_refl _, by simp [tk]; try omega, by simp [tk, pl_zero], fun r _ => ?_⟩
      show scan ([] ++ r) line col = put [] _
      rw [put_nil]
      rfl
    | cons c t =>
      rw [List.length_cons] at hl
      rw [scan] at h
      by_cases c10 : c.toNat = 10
      · rw [if_pos c10] at h
        obtain ⟨p, h0, ht, h1, h3, hh, h4, h5⟩ := ih t _ _ ts (by omega) h i hi
        refine ⟨p + 1, by rw [List.length_cons]; omega, ht, h1, by omega, by rw [List.length_cons]; omega, ?_, ?_⟩
        · generalize tk ts i = f at *
          obtain ⟨n, hn⟩ : ∃ n : Nat, (f.line - (line + 1)).toNat = n := ⟨_, rfl⟩
          rw [show (f.line - line).toNat = n + 1 by omega, pl_nl c10, if_neg (by omega)]
          rw [hn] at h4
          split at h4 <;> omega
        · intro r hr
          have hp := h5 r hr
          show scan (c :: (t.take p ++ r)) line col = _
          rw [scan, if_pos c10]
          exact hp
      · rw [if_neg c10] at h
        by_cases cw : ws c = true
        · rw [if_pos cw] at h
          obtain ⟨p, h0, ht, h1, h3, hh, h4, h5⟩ := ih t _ _ ts (by omega) h i hi
          refine ⟨p + 1, by rw [List.length_cons]; omega, ht, h1, h3, by rw [List.length_cons]; omega, ?_, ?_⟩
          · generalize tk ts i = f at *
            by_cases hln : f.line = line
            · rw [if_pos hln] at h4 ⊢
              rw [show (f.line - line).toNat = 0 by omega, pl_zero] at h4 ⊢
              omega
            · rw [if_neg hln] at h4 ⊢
              obtain ⟨n, hn⟩ : ∃ n : Nat, (f.line - line).toNat = n + 1 := ⟨(f.line - line).toNat - 1, by omega⟩
              have := pl_skip [c] t n (by simpa using c10)
              rw [hn] at h4 ⊢
              rw [show c :: t = [c] ++ t from rfl, this, List.length_singleton]
              omega
          · intro r hr
            have hp := h5 r hr
            show scan (c :: (t.take p ++ r)) line col = _
            rw [scan, if_neg c10, if_pos cw]
            exact hp
        · rw [if_neg cw] at h
          by_cases c35 : c.toNat = 35
          · rw [if_pos c35] at h
            have hsplit : t.takeWhile nnl ++ t.dropWhile nnl = t := List.takeWhile_append_dropWhile
            have hall := takeWhile_all nnl t
            have hd : (t.dropWhile nnl).length ≤ t.length := (List.dropWhile_sublist nnl).length_le
            obtain ⟨p, h0, ht, h1, h3, hh, h4, h5⟩ := ih (t.dropWhile nnl) _ _ ts (by omega) h i hi
            generalize hu : t.takeWhile nnl = u at hsplit hall h4 h5
            generalize hv : t.dropWhile nnl = v at hsplit ht h1 h4 h5 h0 hh
            have hvn : ∀ d t', v = d :: t' → nnl d = false := by
              intro d t' e
              exact head_dropWhile nnl t (hv.trans e)
            have hno : ∀ x ∈ c :: u, x.toNat ≠ 10 := by
              intro x hx
              rcases List.mem_cons.1 hx with hx | hx
              · rw [hx]; exact c10
              · have := hall x hx
                simpa [nnl] using this
            subst hsplit
            have hdr : (c :: (u ++ v)).drop (u.length + 1 + p) = v.drop p := by
              rw [show u.length + 1 + p = (c :: u).length + p by simp, ← List.drop_drop]
              show (((c :: u) ++ v).drop (c :: u).length).drop p = _
              rw [List.drop_left]
            refine ⟨u.length + 1 + p, by rw [List.length_cons, List.length_append]; omega, by rw [hdr]; exact ht, by rw [hdr]; exact h1, h3, by rw [List.length_cons, List.length_append]; omega, ?_, ?_⟩
            · generalize tk ts i = f at *
              by_cases hln : f.line = line
              · rw [if_pos hln] at h4 ⊢
                rw [show (f.line - line).toNat = 0 by omega, pl_zero] at h4 ⊢
                omega
              · rw [if_neg hln] at h4 ⊢
                obtain ⟨n, hn⟩ : ∃ n : Nat, (f.line - line).toNat = n + 1 := ⟨(f.line - line).toNat - 1, by omega⟩
                have := pl_skip (c :: u) v n hno
                rw [hn] at h4 ⊢
                rw [show c :: (u ++ v) = (c :: u) ++ v from rfl, this, List.length_cons]
                omega
            · intro r hr
              rw [hdr] at hr
              have hp := h5 r hr
              have htk : (c :: (u ++ v)).take (u.length + 1 + p) ++ r = c :: (u ++ (v.take p ++ r)) := by
                have : ((c :: u) ++ v).take ((c :: u).length + p) = (c :: u) ++ v.take p := List.take_length_add_append p
                rw [show u.length + 1 + p = (c :: u).length + p by simp]
                show ((c :: u) ++ v).take _ ++ r = _
                rw [this]
                simp
              have hz : v.take p ++ r = [] ∨ ∃ d t, v.take p ++ r = d :: t ∧ nnl d = false := by
                rcases Hd.app p hr with e | ⟨d, t1, t2, e1, e2⟩
                · exact .inl e
                · exact .inr ⟨d, t1, e1, hvn d t2 e2⟩
              have htw := takeWhile_app nnl u (v.take p ++ r) hall hz
              rw [htk, scan, if_neg c10, if_neg cw, if_pos c35, htw.1, htw.2]
              exact hp
          · rw [if_neg c35] at h
            cases htk : tok (c :: t) with
            | bad e w => rw [htk] at h; cases h
            | ok k w n =>
              rw [htk] at h
              simp only [] at h
              cases hs : scan (t.drop (w.length - 1)) line (col + w.length) with
              | error f' => rw [hs] at h; cases h
              | ok l2 =>
                have h00 : scan (c :: t) line col = .ok (⟨k, w, n, line, col⟩ :: l2) := by
                  rw [scan, if_neg c10, if_neg cw, if_neg c35, htk]
                  simp only []
                  rw [hs]
                rw [hs] at h
                cases h
                cases i with
                | zero =>
                  refine ⟨0, Nat.zero_le _, h00, .inr ⟨⟨c, t, rfl, c10, by simpa using cw, c35⟩, htk⟩, Int.le_refl _, by simp [tk]; try omega, by simp [tk, pl_zero], fun r _ => ?_⟩
                  show scan ([] ++ r) line col = put [] _
                  rw [put_nil]
                  rfl
                | succ i =>
                obtain ⟨hw, hwn⟩ := tok_take htk
                obtain ⟨b, w', rfl⟩ : ∃ b w', w = b :: w' := by cases w with | nil => exact absurd rfl hwn | cons b w' => exact ⟨b, w', rfl⟩
                rw [List.length_cons, List.take_succ_cons] at hw
                injection hw with hb hw
                subst hb
                rw [List.length_cons] at hs
                simp only [Nat.add_sub_cancel] at hs
                obtain ⟨p, h0, ht, h1, h3, hh, h4, h5⟩ := ih (t.drop w'.length) _ _ l2 (by rw [List.length_drop]; omega) hs i (by simpa using hi)
                have hno : ∀ x ∈ b :: w', x.toNat ≠ 10 := tok_nonl htk
                have hsplit : w' ++ t.drop w'.length = t := by conv => lhs; arg 1; rw [hw]
                                                               exact List.take_append_drop _ _
                generalize t.drop w'.length = v at hs h0 ht h1 h3 h4 h5 hsplit hh
                subst hsplit
                have hdr : (b :: (w' ++ v)).drop (w'.length + 1 + p) = v.drop p := by
                  rw [show w'.length + 1 + p = (b :: w').length + p by simp, ← List.drop_drop]
                  show (((b :: w') ++ v).drop (b :: w').length).drop p = _
                  rw [List.drop_left]
                have htk0 : tk (⟨k, b :: w', n, line, col⟩ :: l2) (i + 1) = tk l2 i := rfl
                refine ⟨w'.length + 1 + p, by rw [List.length_cons, List.length_append]; omega, by rw [hdr, htk0]; exact ht, by rw [hdr, htk0]; exact h1, by rw [htk0]; exact h3, by rw [htk0, List.length_cons, List.length_append]; omega, ?_, ?_⟩
                · rw [htk0]
                  generalize tk l2 i = f at *
                  by_cases hln : f.line = line
                  · rw [if_pos hln] at h4 ⊢
                    rw [show (f.line - line).toNat = 0 by omega, pl_zero] at h4 ⊢
                    omega
                  · rw [if_neg hln] at h4 ⊢
                    obtain ⟨n', hn⟩ : ∃ n : Nat, (f.line - line).toNat = n + 1 := ⟨(f.line - line).toNat - 1, by omega⟩
                    have := pl_skip (b :: w') v n' hno
                    rw [hn] at h4 ⊢
                    rw [show b :: (w' ++ v) = (b :: w') ++ v from rfl, this, List.length_cons]
                    omega
                · intro r hr
                  rw [hdr] at hr
                  have hp := h5 r hr
                  have htk2 : (b :: (w' ++ v)).take (w'.length + 1 + p) ++ r = b :: (w' ++ (v.take p ++ r)) := by
                    have : ((b :: w') ++ v).take ((b :: w').length + p) = (b :: w') ++ v.take p := List.take_length_add_append p
                    rw [show w'.length + 1 + p = (b :: w').length + p by simp]
                    show ((b :: w') ++ v).take _ ++ r = _
                    rw [this]
                    simp
                  have hz : Stop (b :: (w' ++ v)) (b :: w') (v.take p ++ r) := by
                    rcases Hd.app p hr with e | ⟨d, t1, t2, e1, e2⟩
                    · exact .inl e
                    · refine .inr ⟨d, t1, e1, .inr (.inr ⟨t2, ?_⟩)⟩
                      show ((b :: w') ++ v).drop (b :: w').length = _
                      rw [List.drop_left, e2]
                  have htx : tok (b :: (w' ++ (v.take p ++ r))) = .ok k (b :: w') n := tok_ext htk hz
                  rw [htk2, scan, if_neg c10, if_neg cw, if_neg c35, htx]
                  simp only [List.length_cons, Nat.add_sub_cancel]
                  rw [List.drop_left, htk0]
                  rw [hp]
                  cases hq : scan r (tk l2 i).line (tk l2 i).col with
                  | error g => rfl
                  | ok ts => rfl
def bareX : Except Flt (List Tok) → Except (Int × List UInt8) (List (Int × List UInt8 × Int))
  | .error g => .error (g.e, g.text)
  | .ok ts => .ok (ts.map bare)
theorem scan_cons_tok {c : UInt8} {t : List UInt8} {line col k n : Int} {w : List UInt8} (c10 : c.toNat ≠ 10) (cw : ws c = false) (c35 : c.toNat ≠ 35) (h : tok (c :: t) = .ok k w n) :
    scan (c :: t) line col = put [⟨k, w, n, line, col⟩] (scan (t.drop (w.length - 1)) line (col + w.length)) := by
  rw [scan, if_neg c10, if_neg (by rw [cw]; decide), if_neg c35, h]
  simp only
  cases scan (t.drop (w.length - 1)) line (col + w.length) <;> rfl
def gapC (d : UInt8) : Prop := d = 32 ∨ d = 10 ∨ d = 9 ∨ d = 35
def Gap (g : List UInt8) : Prop := (∃ d t, g = d :: t ∧ gapC d) ∧ ∀ line col, ∃ line' col', ∀ v, scan (g ++ v) line col = scan v line' col'
def gapped : List (List UInt8) → List Tok → List UInt8
  | g :: gs, t :: r => g ++ t.text ++ gapped gs r
  | _, _ => []
end Go.Proofs.YtaphnbaiamnfpaaGreatDoor.Lx
namespace Go.Proofs.YtaphnbaiamnfpaaGreatDoor.Px
set_option linter.unusedVariables false
set_option linter.unusedSimpArgs false
open Lx (Tok bare)
open Pm

def endR {α : Type} : Rs α → Nat
  | .ok _ k => k
  | .no k => k
  | .out => 0
mutual
def sE : E → E
  | .mk k n s ns os ks _ _ => .mk k n s ns os (sEs ks) 0 0
def sEs : List E → List E
  | [] => []
  | x :: r => sE x :: sEs r
end
theorem sE_mk (k n : Int) (s : List UInt8) (ns : List (List UInt8)) (os : List Int) (ks : List E) (a b : Int) : sE (.mk k n s ns os ks a b) = .mk k n s ns os (sEs ks) 0 0 := by rw [sE]
theorem sEs_cons (x : E) (r : List E) : sEs (x :: r) = sE x :: sEs r := by rw [sEs]
theorem sEs_nil : sEs [] = [] := by rw [sEs]
def sF (f : Fld) : Fld := ⟨f.name, f.typ, 0, 0⟩
def sFn (f : Fnc) : Fnc := ⟨f.name, f.params.map sF, f.res, sE f.body, 0, 0⟩
def sP (p : Pg) : Pg := ⟨p.inputs.map sF, p.funs.map sFn, sE p.query⟩
def sQ : (q : NT) → Ret q → Ret q
  | .typ, t => t
  | .typs, l => l
  | .field, f => sF f
  | .fields, l => l.map sF
  | .fun_, f => sFn f
  | .names, l => l
  | .list _, l => sEs l
  | .rest _, l => sEs l
  | .pick, p => (p.1, sEs p.2)
  | .share, l => l
  | .bound, l => l
  | .inputs, l => l.map sF
  | .funs, l => l.map sFn
  | .program, p => sP p
  | .expr, e => sE e
  | .level _, e => sE e
  | .loop _ _, e => sE e
  | .unary, e => sE e
  | .atom, e => sE e
inductive Dead (d : NT → Prop) {α : Type} : Pm α → Prop
  | fail : Dead d .fail
  | tst (s : List UInt8) (y n : Pm α) : Dead d n → Dead d (.tst s y n)
  | knd (k : Int) (y n : Pm α) : k ≠ 5 → Dead d n → Dead d (.knd k y n)
  | look (f : Tok → Pm α) : (∀ t, Dead d (f t)) → Dead d (.look f)
  | call (q : NT) (f : Ret q → Pm α) : d q → Dead d (.call q f)
def dead : NT → Prop
  | .expr | .level _ | .unary | .atom | .field | .typ => True
  | _ => False
inductive Tw {α : Type} (R : α → α → Prop) : Pm α → Pm α → Prop
  | ret (a b : α) : R a b → Tw R (.ret a) (.ret b)
  | fail : Tw R .fail .fail
  | tst (s : List UInt8) (y n y' n' : Pm α) : Tw R y y' → Tw R n n' → (s = wRp ∨ s = wCm → Dead dead n) → Tw R (.tst s y n) (.tst s y' n')
  | knd (k : Int) (y n y' n' : Pm α) : k ≠ 5 → k ≠ 4 → Tw R y y' → Tw R n n' → Tw R (.knd k y n) (.knd k y' n')
  | look (f f' : Tok → Pm α) : (∀ t t', t'.text = t.text → t'.n = t.n → Tw R (f t) (f' t')) → (Dead dead (.look f) ∨ ∀ t, ∃ m, f t = .next m) → Tw R (.look f) (.look f')
  | next (m m' : Pm α) : Tw R m m' → Tw R (.next m) (.next m')
  | call (q : NT) (f f' : Ret q → Pm α) : (∀ a b, sQ q a = sQ q b → Tw R (f a) (f' b)) → Tw R (.call q f) (.call q f')
  | loop (n : Nat) (x y : E) (f f' : E → Pm α) : sE x = sE y → (∀ a b, sE a = sE b → Tw R (f a) (f' b)) → Tw R (.call (.loop n x) f) (.call (.loop n y) f')
def SQ (q : NT) (a b : Ret q) : Prop := sQ q a = sQ q b
def RR {α : Type} (R : α → α → Prop) : Rs α → Rs α → Prop
  | .ok a i, .ok b j => i = j ∧ R a b
  | .no i, .no j => i = j
  | .out, .out => True
  | _, _ => False
end Go.Proofs.YtaphnbaiamnfpaaGreatDoor.Px
namespace Go.Proofs.YtaphnbaiamnfpaaGreatDoor.Px
set_option linter.unusedVariables false
set_option linter.unusedSimpArgs false
open Lx (Tok bare)

abbrev Bt : Type := Int × List UInt8 × Int
inductive Pc where
  | t (b : Bt)
  | sp
  | nl
deriving Inhabited
def Pc.txt : Pc → List UInt8
  | .t b => b.2.1
  | .sp => [32]
  | .nl => [10]
def txt : List Pc → List UInt8
  | [] => []
  | p :: r => p.txt ++ txt r
def tks : List Pc → List Bt
  | [] => []
  | .t b :: r => b :: tks r
  | .sp :: r => tks r
  | .nl :: r => tks r
theorem txt_app : ∀ a b : List Pc, txt (a ++ b) = txt a ++ txt b
  | [], b => rfl
  | p :: a, b => by show p.txt ++ txt (a ++ b) = _; rw [txt_app a b, txt, List.append_assoc]
theorem tks_app : ∀ a b : List Pc, tks (a ++ b) = tks a ++ tks b
  | [], b => rfl
  | .t x :: a, b => by show x :: tks (a ++ b) = _; rw [tks_app a b]; rfl
  | .sp :: a, b => tks_app a b
  | .nl :: a, b => tks_app a b
abbrev pg (s : List UInt8) : Pc := .t (4, s, 0)
abbrev pwd (s : List UInt8) : Pc := .t (2, s, 0)
abbrev pn (s : List UInt8) : Pc := .t (1, s, 0)
abbrev pu (n : Int) : Pc := .t (3, Go.Lib.itoa n, n)
def pnum (n : Int) : List Pc := if n < 0 then [pg wMi, pu (-n)] else [pu n]
def commas : List (List Pc) → List Pc
  | [] => []
  | [x] => x
  | x :: y :: r => x ++ pg wCm :: .sp :: commas (y :: r)

def lvl (s : List UInt8) : Nat :=
  if s = wOr then 1 else if s = wAnd then 2 else if s = wEqEq ∨ s = wLt ∨ s = wLe then 3 else if s = wCc then 4
  else if s = wPl ∨ s = wMi then 5 else if s = wTi ∨ s = wSl ∨ s = wPc then 6 else if s = wNot ∨ s = wNeg then 7 else 0
def rk (k : Int) (s : List UInt8) : Nat := if k = 7 then lvl s else if k = 8 ∨ k = 9 ∨ k = 10 ∨ k = 11 ∨ k = 12 then 0 else 8
def lft (s : List UInt8) : Nat := if lvl s = 3 ∨ lvl s = 4 then lvl s + 1 else lvl s
def rgt (s : List UInt8) : Nat := if lvl s = 4 then 4 else lvl s + 1
def pop (s : List UInt8) : Pc := if s = wOr ∨ s = wAnd then pwd s else pg s
def par (m : Nat) (x : Nat × List Pc) : List Pc := if x.1 < m then pg wLp :: (x.2 ++ [pg wRp]) else x.2
def kd (L : List (Nat × List Pc)) (i : Nat) : Nat × List Pc := L.getD i (0, [])
def opf (s : List UInt8) (L : List (Nat × List Pc)) : List Pc :=
  if s = wNeg then pg wMi :: par 7 (kd L 0) else if s = wNot then pwd wNot :: .sp :: par 7 (kd L 0)
  else par (lft s) (kd L 0) ++ .sp :: pop s :: .sp :: par (rgt s) (kd L 1)
def letn (ns : List (List UInt8)) : List Pc :=
  match ns with
  | [x] => [pn x]
  | l => pg wLp :: (commas (l.map fun x => [pn x]) ++ [pg wRp])
def picks : List Int → List (Nat × List Pc) → List (List Pc)
  | o :: os, x :: L => (pnum o ++ pg wCl :: .sp :: x.2) :: picks os L
  | _, _ => []
def form (k n : Int) (s : List UInt8) (ns : List (List UInt8)) (os : List Int) (L : List (Nat × List Pc)) : List Pc :=
  if k = 1 then pnum n
  else if k = 2 then [pwd (if n = 1 then wTrue else wFalse)]
  else if k = 3 then [pn s]
  else if k = 4 then pn s :: pg wLp :: (commas (L.map (·.2)) ++ [pg wRp])
  else if k = 5 then pg wLp :: (commas (L.map (·.2)) ++ [pg wRp])
  else if k = 6 then pg wLb :: (commas (L.map (·.2)) ++ [pg wRb])
  else if k = 7 then opf s L
  else if k = 8 then pwd wLet :: .sp :: (letn ns ++ .sp :: pg wEq :: .sp :: ((kd L 0).2 ++ .sp :: pwd wIn :: .sp :: (kd L 1).2))
  else if k = 9 then pwd wIf :: .sp :: ((kd L 0).2 ++ .sp :: pwd wThen :: .sp :: ((kd L 1).2 ++ .sp :: pwd wElse :: .sp :: (kd L 2).2))
  else if k = 10 then pwd wCase :: .sp :: ((kd L 0).2 ++ .sp :: pwd wOf :: .sp :: pg wLb :: pg wRb :: .sp :: pg wAr :: .sp :: ((kd L 1).2 ++
    .sp :: pg wBar :: .sp :: pn (ns.getD 0 []) :: .sp :: pg wCc :: .sp :: pn (ns.getD 1 []) :: .sp :: pg wAr :: .sp :: (kd L 2).2))
  else if k = 11 then pwd wObserve :: .sp :: ((kd L 0).2 ++ .sp :: pwd wIn :: .sp :: (kd L 1).2)
  else if k = 12 then pwd wScore :: .sp :: (pnum (os.getD 0 0) ++ pg wSl :: (pnum (os.getD 1 0) ++ .sp :: pwd wIn :: .sp :: (kd L 0).2))
  else if k = 13 then pwd wPick :: .sp :: pg wLc :: .sp :: (commas (picks os L) ++ [.sp, pg wRc])
  else if k = 14 then pwd wFlip :: pg wLp :: (pnum (os.getD 0 0) ++ pg wSl :: (pnum (os.getD 1 0) ++ [pg wRp]))
  else pwd wRange :: pg wLp :: (pnum (os.getD 0 0) ++ pg wCm :: .sp :: (pnum (os.getD 1 0) ++ [pg wRp]))
def E.rk (e : E) : Nat := Px.rk e.k e.name
mutual
def pE : E → List Pc
  | .mk k n s ns os ks _ _ => form k n s ns os (pKs ks)
def pKs : List E → List (Nat × List Pc)
  | [] => []
  | x :: r => (x.rk, pE x) :: pKs r
end
theorem pKs_map : ∀ l : List E, pKs l = l.map fun x => (x.rk, pE x)
  | [] => by rw [pKs]; rfl
  | x :: r => by rw [pKs, pKs_map r]; rfl
mutual
def pT : T → List Pc
  | .mk k l => if k = 1 then [pwd wBool] else if k = 2 then [pwd wInt] else if k = 3 then pg wLp :: (commas (pTs l) ++ [pg wRp]) else pg wLb :: (commas (pTs l) ++ [pg wRb])
def pTs : List T → List (List Pc)
  | [] => []
  | x :: r => pT x :: pTs r
end
theorem pTs_map : ∀ l : List T, pTs l = l.map pT
  | [] => by rw [pTs]; rfl
  | x :: r => by rw [pTs, pTs_map r]; rfl
def pF (f : Fld) : List Pc := pn f.name :: pg wCl :: .sp :: pT f.typ
def pIn : List Fld → List Pc
  | [] => []
  | f :: r => pwd wInput :: .sp :: (pF f ++ pg wSc :: .nl :: pIn r)
def pFn (g : Fnc) : List Pc := pwd wFun :: .sp :: pn g.name :: pg wLp :: (commas (g.params.map pF) ++ pg wRp :: pg wCl :: .sp :: (pT g.res ++ .sp :: pg wEq :: .sp :: (pE g.body ++ [pg wSc, .nl])))
def pFns : List Fnc → List Pc
  | [] => []
  | g :: r => pFn g ++ pFns r
def pP (p : Pg) : List Pc := pIn p.inputs ++ (pFns p.funs ++ (pE p.query ++ [.nl]))

def isName (s : List UInt8) : Bool := Lx.sm (s.headD 0) && s.all Lx.nm && decide (s.length ≤ 24) && !Lx.isWord s
def inO (lo : Int) (o : Int) : Bool := decide (lo ≤ o) && decide (o ≤ 2147483647)
def shaped (k n : Int) (s : List UInt8) (ns : List (List UInt8)) (os : List Int) (nk : Nat) : Bool :=
  let bare := ns.isEmpty && os.isEmpty
  let none := s.isEmpty && decide (n = 0)
  if k = 1 then bare && decide (nk = 0) && s.isEmpty && inO 0 n
  else if k = 2 then bare && decide (nk = 0) && s.isEmpty && (decide (n = 0) || decide (n = 1))
  else if k = 3 then bare && decide (nk = 0) && decide (n = 0) && isName s
  else if k = 4 then bare && decide (n = 0) && isName s
  else if k = 5 then bare && none && decide (2 ≤ nk) && decide (nk ≤ 4)
  else if k = 6 then bare && none
  else if k = 7 then bare && decide (n = 0) && decide (0 < lvl s) && ((decide (lvl s = 7) && decide (nk = 1)) || (decide (lvl s < 7) && decide (nk = 2)))
  else if k = 8 then none && os.isEmpty && decide (nk = 2) && decide (1 ≤ ns.length) && decide (ns.length ≤ 4) && ns.all isName
  else if k = 9 then bare && none && decide (nk = 3)
  else if k = 10 then none && os.isEmpty && decide (nk = 3) && decide (ns.length = 2) && ns.all isName
  else if k = 11 then bare && none && decide (nk = 2)
  else if k = 12 then none && ns.isEmpty && decide (nk = 1) && decide (os.length = 2) && os.all (inO 0)
  else if k = 13 then none && ns.isEmpty && decide (1 ≤ nk) && decide (os.length = nk) && os.all (inO 0)
  else if k = 14 then none && ns.isEmpty && decide (nk = 0) && decide (os.length = 2) && os.all (inO 0)
  else if k = 15 then none && ns.isEmpty && decide (nk = 0) && decide (os.length = 2) && os.all (inO (-2147483647))
  else false
mutual
def rightE : Nat → E → Bool
  | 0, .mk .. => false
  | d + 1, .mk k n s ns os ks _ _ => shaped k n s ns os ks.length && rightEs d ks
def rightEs : Nat → List E → Bool
  | _, [] => true
  | d, x :: r => rightE d x && rightEs d r
end
mutual
def rightT : Nat → T → Bool
  | 0, .mk .. => false
  | d + 1, .mk k l => (if k = 1 ∨ k = 2 then l.isEmpty else if k = 3 then decide (2 ≤ l.length) && decide (l.length ≤ 4) else if k = 4 then decide (l.length = 1) else false) && rightTs d l
def rightTs : Nat → List T → Bool
  | _, [] => true
  | d, x :: r => rightT d x && rightTs d r
end
def rightF (f : Fld) : Bool := isName f.name && rightT 40 f.typ
def rightFn (g : Fnc) : Bool := g.params.all rightF && isName g.name && rightT 40 g.res && rightE 40 g.body
def rightP (p : Pg) : Bool := p.inputs.all rightF && p.funs.all rightFn && rightE 40 p.query
inductive Shp : Int → Int → List UInt8 → List (List UInt8) → List Int → Nat → Prop
  | num (n : Int) : 0 ≤ n → n ≤ 2147483647 → Shp 1 n [] [] [] 0
  | bool (n : Int) : n = 0 ∨ n = 1 → Shp 2 n [] [] [] 0
  | var (s : List UInt8) : isName s = true → Shp 3 0 s [] [] 0
  | call (s : List UInt8) (m : Nat) : isName s = true → Shp 4 0 s [] [] m
  | tup (m : Nat) : 2 ≤ m → m ≤ 4 → Shp 5 0 [] [] [] m
  | list (m : Nat) : Shp 6 0 [] [] [] m
  | un (s : List UInt8) : s = wNeg ∨ s = wNot → Shp 7 0 s [] [] 1
  | bin (s : List UInt8) : 0 < lvl s → lvl s < 7 → Shp 7 0 s [] [] 2
  | let_ (ns : List (List UInt8)) : 1 ≤ ns.length → ns.length ≤ 4 → (∀ x ∈ ns, isName x = true) → Shp 8 0 [] ns [] 2
  | if_ : Shp 9 0 [] [] [] 3
  | case_ (a b : List UInt8) : isName a = true → isName b = true → Shp 10 0 [] [a, b] [] 3
  | obs : Shp 11 0 [] [] [] 2
  | score (p q : Int) : inO 0 p = true → inO 0 q = true → Shp 12 0 [] [] [p, q] 1
  | pick (os : List Int) : 1 ≤ os.length → (∀ x ∈ os, inO 0 x = true) → Shp 13 0 [] [] os os.length
  | flip (p q : Int) : inO 0 p = true → inO 0 q = true → Shp 14 0 [] [] [p, q] 0
  | range (p q : Int) : inO (-2147483647) p = true → inO (-2147483647) q = true → Shp 15 0 [] [] [p, q] 0
theorem lvl_seven {s : List UInt8} (h : lvl s = 7) : s = wNeg ∨ s = wNot := by
  unfold lvl at h
  repeat' split at h
  all_goals first | (cases h; done) | (rename_i h1; exact h1.symm)
theorem two_in {α : Type} : ∀ {l : List α}, l.length = 2 → ∃ a b, l = [a, b]
  | [a, b], _ => ⟨a, b, rfl⟩
theorem shp_of {k n : Int} {s : List UInt8} {ns : List (List UInt8)} {os : List Int} {nk : Nat} (h : shaped k n s ns os nk = true) : Shp k n s ns os nk := by
  unfold shaped at h
  by_cases k1 : k = 1
  · subst k1; simp at h; obtain ⟨⟨⟨⟨rfl, rfl⟩, rfl⟩, rfl⟩, h⟩ := h
    unfold inO at h; simp at h; exact .num n h.1 h.2
  rw [if_neg k1] at h
  by_cases k2 : k = 2
  · subst k2; simp at h; obtain ⟨⟨⟨⟨rfl, rfl⟩, rfl⟩, rfl⟩, h⟩ := h
    exact .bool n h
  rw [if_neg k2] at h
  by_cases k3 : k = 3
  · subst k3; simp at h; obtain ⟨⟨⟨⟨rfl, rfl⟩, rfl⟩, rfl⟩, h⟩ := h
    exact .var s h
  rw [if_neg k3] at h
  by_cases k4 : k = 4
  · subst k4; simp at h; obtain ⟨⟨⟨rfl, rfl⟩, rfl⟩, h⟩ := h
    exact .call s nk h
  rw [if_neg k4] at h
  by_cases k5 : k = 5
  · subst k5; simp at h; obtain ⟨⟨⟨⟨rfl, rfl⟩, rfl, rfl⟩, h1⟩, h2⟩ := h
    exact .tup nk h1 h2
  rw [if_neg k5] at h
  by_cases k6 : k = 6
  · subst k6; simp at h; obtain ⟨⟨rfl, rfl⟩, rfl, rfl⟩ := h
    exact .list nk
  rw [if_neg k6] at h
  by_cases k7 : k = 7
  · subst k7; simp at h; obtain ⟨⟨⟨⟨rfl, rfl⟩, rfl⟩, h0⟩, h⟩ := h
    rcases h with ⟨h1, rfl⟩ | ⟨h1, rfl⟩
    · exact .un s (lvl_seven h1)
    · exact .bin s h0 h1
  rw [if_neg k7] at h
  by_cases k8 : k = 8
  · subst k8; simp at h; obtain ⟨⟨⟨⟨⟨⟨rfl, rfl⟩, rfl⟩, rfl⟩, h1⟩, h2⟩, h3⟩ := h
    exact .let_ ns h1 h2 h3
  rw [if_neg k8] at h
  by_cases k9 : k = 9
  · subst k9; simp at h; obtain ⟨⟨⟨rfl, rfl⟩, rfl, rfl⟩, rfl⟩ := h
    exact .if_
  rw [if_neg k9] at h
  by_cases k10 : k = 10
  · subst k10; simp at h; obtain ⟨⟨⟨⟨⟨rfl, rfl⟩, rfl⟩, rfl⟩, h1⟩, h2⟩ := h
    obtain ⟨a, b, rfl⟩ := two_in h1
    exact .case_ a b (h2 a (by simp)) (h2 b (by simp))
  rw [if_neg k10] at h
  by_cases k11 : k = 11
  · subst k11; simp at h; obtain ⟨⟨⟨rfl, rfl⟩, rfl, rfl⟩, rfl⟩ := h
    exact .obs
  rw [if_neg k11] at h
  by_cases k12 : k = 12
  · subst k12; simp at h; obtain ⟨⟨⟨⟨⟨rfl, rfl⟩, rfl⟩, rfl⟩, h1⟩, h2⟩ := h
    obtain ⟨a, b, rfl⟩ := two_in h1
    exact .score a b (h2 a (by simp)) (h2 b (by simp))
  rw [if_neg k12] at h
  by_cases k13 : k = 13
  · subst k13; simp at h; obtain ⟨⟨⟨⟨⟨rfl, rfl⟩, rfl⟩, h0⟩, h1⟩, h2⟩ := h
    subst h1
    exact .pick os h0 h2
  rw [if_neg k13] at h
  by_cases k14 : k = 14
  · subst k14; simp at h; obtain ⟨⟨⟨⟨⟨rfl, rfl⟩, rfl⟩, rfl⟩, h1⟩, h2⟩ := h
    obtain ⟨a, b, rfl⟩ := two_in h1
    exact .flip a b (h2 a (by simp)) (h2 b (by simp))
  rw [if_neg k14] at h
  by_cases k15 : k = 15
  · subst k15; simp at h; obtain ⟨⟨⟨⟨⟨rfl, rfl⟩, rfl⟩, rfl⟩, h1⟩, h2⟩ := h
    obtain ⟨a, b, rfl⟩ := two_in h1
    exact .range a b (h2 a (by simp)) (h2 b (by simp))
  rw [if_neg k15] at h
  cases h
inductive Right : E → Prop
  | mk (k n : Int) (s : List UInt8) (ns : List (List UInt8)) (os : List Int) (ks : List E) (a b : Int) : Shp k n s ns os ks.length → (∀ x ∈ ks, Right x) → Right (.mk k n s ns os ks a b)
inductive RightT : T → Prop
  | bool (l : List T) : l = [] → RightT (.mk 1 l)
  | int (l : List T) : l = [] → RightT (.mk 2 l)
  | tup (l : List T) : 2 ≤ l.length → l.length ≤ 4 → (∀ x ∈ l, RightT x) → RightT (.mk 3 l)
  | lst (x : T) : RightT x → RightT (.mk 4 [x])
theorem rightEs_mem {d : Nat} : ∀ {l : List E}, rightEs d l = true → ∀ x ∈ l, rightE d x = true
  | [], _, x, hx => by cases hx
  | y :: r, h, x, hx => by
    rw [rightEs, Bool.and_eq_true] at h
    rcases List.mem_cons.1 hx with rfl | hx
    · exact h.1
    · exact rightEs_mem h.2 x hx
theorem rightTs_mem {d : Nat} : ∀ {l : List T}, rightTs d l = true → ∀ x ∈ l, rightT d x = true
  | [], _, x, hx => by cases hx
  | y :: r, h, x, hx => by
    rw [rightTs, Bool.and_eq_true] at h
    rcases List.mem_cons.1 hx with rfl | hx
    · exact h.1
    · exact rightTs_mem h.2 x hx
mutual
theorem pE_same : ∀ (a b : E), sE a = sE b → pE a = pE b
  | .mk k n s ns os ks x y, .mk k' n' s' ns' os' ks' x' y', h => by
    rw [sE, sE] at h
    injection h with h1 h2 h3 h4 h5 h6
    subst h1 h2 h3 h4 h5
    rw [pE, pE, pKs_same ks ks' h6]
theorem pKs_same : ∀ (a b : List E), sEs a = sEs b → pKs a = pKs b
  | [], [], _ => rfl
  | [], _ :: _, h => by rw [sEs, sEs] at h; cases h
  | _ :: _, [], h => by rw [sEs, sEs] at h; cases h
  | x :: r, y :: q, h => by
    rw [sEs, sEs] at h
    injection h with h1 h2
    have hk : x.rk = y.rk := by
      cases x; cases y
      rw [sE, sE] at h1
      injection h1 with h1 h2 h3
      show Px.rk _ _ = Px.rk _ _
      exact congr (congrArg Px.rk h1) h3
    rw [pKs, pKs, pE_same x y h1, pKs_same r q h2, hk]
end
end Go.Proofs.YtaphnbaiamnfpaaGreatDoor.Px
namespace Go.Proofs.YtaphnbaiamnfpaaGreatDoor.Px
set_option linter.unusedVariables false
set_option linter.unusedSimpArgs false
open Lx (Tok bare scan tok put nm sm dg ws scan_cons_tok put_put put_nil tok_take sgn twos ones has hasB)

theorem tok_first {c : UInt8} {t : List UInt8} {k n : Int} {w : List UInt8} (h : tok (c :: t) = .ok k w n) : c.toNat ≠ 10 ∧ ws c = false ∧ c.toNat ≠ 35 := by
  have key : ∀ d : UInt8, sm d = false → dg d = false → hasB ones d = false → d ≠ 61 → d ≠ 60 → d ≠ 58 → c ≠ d := by
    intro d h1 h2 h3 h4 h5 h6 e
    subst e
    unfold tok at h
    rw [if_neg (by rw [show List.headD (c :: t) 0 = c from rfl, h1]; decide), if_neg (by rw [show List.headD (c :: t) 0 = c from rfl, h2]; decide)] at h
    have : sgn (c :: t) = [] := by
      unfold sgn
      rw [if_neg, if_neg (by rw [show List.headD (c :: t) 0 = c from rfl, h3]; decide)]
      intro hh
      have hm := List.contains_iff_mem.1 hh
      have hf : ∀ x ∈ twos, x.headD 0 = 61 ∨ x.headD 0 = 60 ∨ x.headD 0 = 58 := by decide
      have e1 : ((c :: t).take 2).headD 0 = c := by cases t <;> rfl
      rcases hf _ hm with e | e | e <;> rw [e1] at e
      · exact h4 e
      · exact h5 e
      · exact h6 e
    rw [if_pos this] at h
    cases h
  have n10 := key 10 (by decide) (by decide) (by decide) (by decide) (by decide) (by decide)
  have n32 := key 32 (by decide) (by decide) (by decide) (by decide) (by decide) (by decide)
  have n9 := key 9 (by decide) (by decide) (by decide) (by decide) (by decide) (by decide)
  have n13 := key 13 (by decide) (by decide) (by decide) (by decide) (by decide) (by decide)
  have n35 := key 35 (by decide) (by decide) (by decide) (by decide) (by decide) (by decide)
  have toN : ∀ d : UInt8, c ≠ d → c.toNat ≠ d.toNat := fun d hd e => hd (UInt8.toNat_inj.1 e)
  refine ⟨toN 10 n10, ?_, toN 35 n35⟩
  unfold ws
  rw [decide_eq_false (show ¬ c.toNat = 32 from toN 32 n32), decide_eq_false (show ¬ c.toNat = 9 from toN 9 n9), decide_eq_false (show ¬ c.toNat = 13 from toN 13 n13)]
  rfl
theorem scan_tok {s z : List UInt8} {k n : Int} (hs : s ≠ []) (h : tok (s ++ z) = .ok k s n) (line col : Int) : scan (s ++ z) line col = put [⟨k, s, n, line, col⟩] (scan z line (col + s.length)) := by
  cases s with
  | nil => exact absurd rfl hs
  | cons c t =>
    obtain ⟨h1, h2, h3⟩ := tok_first h
    rw [List.cons_append] at h ⊢
    rw [scan_cons_tok h1 h2 h3 h, List.length_cons, Nat.add_sub_cancel, List.drop_left]

def Cl (z : List UInt8) : Prop := nm (z.headD 32) = false
def Sc (free : Bool) (xs : List Pc) : Prop := ∀ line col, ∃ ts, ts.map bare = tks xs ∧ ∃ line' col', ∀ z, (free = true ∨ Cl z) → scan (txt xs ++ z) line col = put ts (scan z line' col')
def Hc (xs : List Pc) : Prop := ∀ z, Cl z → Cl (txt xs ++ z)
theorem Hc.of {p : Pc} {r : List Pc} {c : UInt8} {t : List UInt8} (h : p.txt = c :: t) (hc : nm c = false) : Hc (p :: r) := fun z _ => by
  show nm ((p.txt ++ txt r ++ z).headD 32) = false
  rw [h]
  exact hc
theorem Hc.nil : Hc [] := fun z h => h
theorem Sc.nil : Sc true [] := fun line col => ⟨[], rfl, line, col, fun z _ => (put_nil _).symm⟩
theorem Sc.weak {xs : List Pc} (h : Sc true xs) {a : Bool} : Sc a xs := fun line col => by
  obtain ⟨ts, h1, l', c', h2⟩ := h line col
  exact ⟨ts, h1, l', c', fun z _ => h2 z (.inl rfl)⟩
theorem Sc.app {a b : Bool} {xs ys : List Pc} (hx : Sc b xs) (hy : Sc a ys) (hb : b = true ∨ Hc ys) (ha : a = true → ∀ z, b = true ∨ Cl (txt ys ++ z)) : Sc a (xs ++ ys) := fun line col => by
  obtain ⟨ts, h1, l', c', h2⟩ := hx line col
  obtain ⟨us, h3, l2, c2, h4⟩ := hy l' c'
  refine ⟨ts ++ us, by rw [List.map_append, h1, h3, tks_app], l2, c2, fun z hz => ?_⟩
  rw [txt_app, List.append_assoc, h2 _ ?_, h4 z hz, put_put]
  rcases hb with hb | hb
  · exact .inl hb
  · rcases hz with hz | hz
    · exact ha hz z
    · exact .inr (hb z hz)
theorem Sc.cons {a : Bool} {k n : Int} {s : List UInt8} {xs : List Pc} (hs : s ≠ []) (ht : ∀ z, (a = true ∨ Cl z) → tok (s ++ (txt xs ++ z)) = .ok k s n) (hx : Sc a xs) : Sc a (.t (k, s, n) :: xs) := fun line col => by
  obtain ⟨us, h3, l2, c2, h4⟩ := hx line (col + s.length)
  refine ⟨⟨k, s, n, line, col⟩ :: us, by rw [List.map_cons, h3]; rfl, l2, c2, fun z hz => ?_⟩
  show scan (s ++ txt xs ++ z) line col = _
  rw [List.append_assoc, scan_tok hs (ht z hz), h4 z hz, put_put]
  rfl
theorem scan_sp (z : List UInt8) (line col : Int) : scan (32 :: z) line col = scan z line (col + 1) := by
  rw [scan, if_neg (by decide), if_pos (by decide)]
theorem scan_nl' (z : List UInt8) (line col : Int) : scan (10 :: z) line col = scan z (line + 1) 1 := by
  rw [scan, if_pos (by decide)]
theorem Sc.sp {a : Bool} {xs : List Pc} (hx : Sc a xs) : Sc a (.sp :: xs) := fun line col => by
  obtain ⟨us, h3, l2, c2, h4⟩ := hx line (col + 1)
  exact ⟨us, h3, l2, c2, fun z hz => (scan_sp _ _ _).trans (h4 z hz)⟩
theorem Sc.nl {a : Bool} {xs : List Pc} (hx : Sc a xs) : Sc a (.nl :: xs) := fun line col => by
  obtain ⟨us, h3, l2, c2, h4⟩ := hx (line + 1) 1
  exact ⟨us, h3, l2, c2, fun z hz => (scan_nl' _ _ _).trans (h4 z hz)⟩
def Free (s : List UInt8) : Prop := s ≠ [] ∧ ∀ z, tok (s ++ z) = .ok 4 s 0
theorem free_one (c : UInt8) (h1 : sm c = false) (h2 : dg c = false) (h3 : hasB ones c = true) (h4 : c ≠ 61) (h5 : c ≠ 60) (h6 : c ≠ 58) : Free [c] := by
  refine ⟨by simp, fun z => ?_⟩
  unfold tok
  have e : ([c] ++ z).headD 0 = c := rfl
  rw [e, h1, h2]
  have : sgn ([c] ++ z) = [c] := by
    unfold sgn
    rw [if_neg, if_pos (by rw [e]; exact h3)]
    · rfl
    · intro hh
      have hm := List.contains_iff_mem.1 hh
      have hf : ∀ x ∈ twos, x.headD 0 = 61 ∨ x.headD 0 = 60 ∨ x.headD 0 = 58 := by decide
      have e1 : (([c] ++ z).take 2).headD 0 = c := by cases z <;> rfl
      rcases hf _ hm with e | e | e <;> rw [e1] at e
      · exact h4 e
      · exact h5 e
      · exact h6 e
  rw [this]
  rfl
theorem free_two (a b : UInt8) (h1 : sm a = false) (h2 : dg a = false) (h3 : has twos [a, b] = true) : Free [a, b] := by
  refine ⟨by simp, fun z => ?_⟩
  unfold tok
  have e : ([a, b] ++ z).headD 0 = a := rfl
  rw [e, h1, h2]
  have : sgn ([a, b] ++ z) = [a, b] := by
    unfold sgn
    rw [if_pos (show has twos (([a, b] ++ z).take 2) = true from h3)]
    rfl
  rw [this]
  rfl
theorem Sc.free {a : Bool} {s : List UInt8} {xs : List Pc} (hs : Free s) (hx : Sc a xs) : Sc a (pg s :: xs) := Sc.cons hs.1 (fun z _ => hs.2 _) hx
theorem tok_sign (c d : UInt8) (z : List UInt8) (h1 : sm c = false) (h2 : dg c = false) (h3 : hasB ones c = true) (h4 : ∀ x ∈ twos, x.getD 1 0 ≠ d) : tok ([c] ++ d :: z) = .ok 4 [c] 0 := by
  unfold tok
  have e : ([c] ++ d :: z).headD 0 = c := rfl
  rw [e, h1, h2]
  have : sgn ([c] ++ d :: z) = [c] := by
    unfold sgn
    rw [if_neg, if_pos (by rw [e]; exact h3)]
    · rfl
    · intro hh
      exact h4 _ (List.contains_iff_mem.1 hh) rfl
  rw [this]
  rfl
theorem Sc.sign {a : Bool} {c : UInt8} {xs : List Pc} (h1 : sm c = false) (h2 : dg c = false) (h3 : hasB ones c = true) (hx : Sc a xs) : Sc a (pg [c] :: .sp :: xs) :=
  Sc.cons (by simp) (fun z _ => tok_sign c 32 _ h1 h2 h3 (by decide)) (Sc.sp hx)
structure Wd (k : Int) (s : List UInt8) (n : Int) : Prop where
  ne : s ≠ []
  go : ∀ z, Cl z → tok (s ++ z) = .ok k s n
theorem Sc.word {a : Bool} {k n : Int} {s : List UInt8} {xs : List Pc} (hs : Wd k s n) (hc : Hc xs) (hc' : a = true → ∀ z, Cl (txt xs ++ z)) (hx : Sc a xs) : Sc a (.t (k, s, n) :: xs) :=
  Sc.cons hs.ne (fun z hz => hs.go _ (by
    rcases hz with hz | hz
    · exact hc' hz z
    · exact hc z hz)) hx
theorem Sc.last {k n : Int} {s : List UInt8} (hs : Wd k s n) : Sc false [.t (k, s, n)] := Sc.word hs Hc.nil (fun h => by cases h) (Sc.weak Sc.nil)
theorem takeWhile_cl {p : UInt8 → Bool} (hp : ∀ c, p c = true → nm c = true) : ∀ (s z : List UInt8), s.all p = true → Cl z → (s ++ z).takeWhile p = s
  | [], z, _, hz => by
    cases z with
    | nil => rfl
    | cons d t =>
      have : p d = false := by
        cases h : p d with
        | false => rfl
        | true => have h1 : nm d = false := hz; rw [hp d h] at h1; cases h1
      rw [List.nil_append, List.takeWhile_cons_of_neg (by rw [this]; decide)]
  | c :: s, z, hs, hz => by
    rw [List.all_cons, Bool.and_eq_true] at hs
    rw [List.cons_append, List.takeWhile_cons_of_pos hs.1, takeWhile_cl hp s z hs.2 hz]
theorem wd_name {s : List UInt8} (h : isName s = true) : Wd 1 s 0 := by
  unfold isName at h
  simp only [Bool.and_eq_true, decide_eq_true_eq, Bool.not_eq_true'] at h
  obtain ⟨⟨⟨h1, h2⟩, h3⟩, h4⟩ := h
  cases s with
  | nil => cases h1
  | cons c t =>
    refine ⟨by simp, fun z hz => ?_⟩
    unfold tok
    rw [show (c :: t ++ z).headD 0 = c from rfl, if_pos (show sm c = true from h1), takeWhile_cl (fun _ h => h) _ z h2 hz, if_neg (by omega), if_neg (by rw [h4]; decide)]
theorem wd_word {s : List UInt8} (h1 : sm (s.headD 0) = true) (h2 : s.all nm = true) (h3 : s.length ≤ 24) (h4 : Lx.isWord s = true) : Wd 2 s 0 := by
  cases s with
  | nil => cases h1
  | cons c t =>
    refine ⟨by simp, fun z hz => ?_⟩
    unfold tok
    rw [show (c :: t ++ z).headD 0 = c from rfl, if_pos (show sm c = true from h1), takeWhile_cl (fun _ h => h) _ z h2 hz, if_neg (by omega), if_pos h4]
theorem ofNat_dig {d : Nat} (h : d < 10) : (UInt8.ofNat (48 + d)).toNat = 48 + d := by
  rw [UInt8.toNat_ofNat']
  omega
theorem dec_step {u : Nat} (h : ¬ u < 10) : Go.Lib.decDigits u = Go.Lib.decDigits (u / 10) ++ [UInt8.ofNat (48 + u % 10)] := by rw [Go.Lib.decDigits, dif_neg h]
theorem dec_all (u : Nat) : (Go.Lib.decDigits u).all dg = true := by
  induction u using Nat.strongRecOn with
  | ind u ih =>
    have one : ∀ d, d < 10 → dg (UInt8.ofNat (48 + d)) = true := fun d hd => by
      unfold dg
      rw [ofNat_dig hd]
      simp; omega
    by_cases h : u < 10
    · rw [Go.Lib.decDigits_one h, List.all_cons, one u h]; rfl
    · rw [dec_step h, List.all_append, ih (u / 10) (by omega), List.all_cons, one _ (by omega)]; rfl
theorem dec_val (u : Nat) : Lx.val (Go.Lib.decDigits u) = u := by
  induction u using Nat.strongRecOn with
  | ind u ih =>
    by_cases h : u < 10
    · rw [Go.Lib.decDigits_one h]
      show 0 * 10 + ((UInt8.ofNat (48 + u)).toNat - 48) = u
      rw [ofNat_dig h]; omega
    · rw [dec_step h, Lx.val_snoc, ih (u / 10) (by omega), ofNat_dig (by omega)]; omega
theorem dec_ne (u : Nat) : Go.Lib.decDigits u ≠ [] := by
  by_cases h : u < 10
  · rw [Go.Lib.decDigits_one h]; simp
  · rw [dec_step h]; simp
theorem itoa_pos {n : Int} (h : 0 ≤ n) : Go.Lib.itoa n = Go.Lib.decDigits n.toNat := by unfold Go.Lib.itoa; rw [if_neg (by omega)]
theorem itoa_min {n : Int} (h : n < 0) : Go.Lib.itoa n = 45 :: Go.Lib.decDigits n.natAbs := by unfold Go.Lib.itoa; rw [if_pos h]
theorem dg_not_sm {c : UInt8} (h : dg c = true) : sm c = false := by
  unfold dg at h
  unfold sm
  rw [Bool.and_eq_true, decide_eq_true_eq, decide_eq_true_eq] at h
  rw [decide_eq_false (by omega)]
  rfl
theorem wd_num {n : Int} (h0 : 0 ≤ n) (h1 : n ≤ 2147483647) : Wd 3 (Go.Lib.itoa n) n := by
  rw [itoa_pos h0]
  have ha := dec_all n.toNat
  have hv := dec_val n.toNat
  have hn := dec_ne n.toNat
  cases hq : Go.Lib.decDigits n.toNat with
  | nil => exact absurd hq hn
  | cons c t =>
    rw [hq] at ha hv
    have hc : dg c = true := by rw [List.all_cons, Bool.and_eq_true] at ha; exact ha.1
    refine ⟨by simp, fun z hz => ?_⟩
    unfold tok
    rw [show (c :: t ++ z).headD 0 = c from rfl, if_neg (by rw [dg_not_sm hc]; decide), if_pos hc, takeWhile_cl (fun c h => by unfold nm; rw [h]; simp) _ z ha hz, hv, if_neg (by omega)]
    congr 1
    omega
theorem txt_num (n : Int) : txt (pnum n) = Go.Lib.itoa n := by
  unfold pnum
  by_cases h : n < 0
  · rw [if_pos h]
    show [45] ++ (Go.Lib.itoa (-n) ++ []) = _
    rw [itoa_min h, itoa_pos (by omega), List.append_nil]
    have : (-n).toNat = n.natAbs := by omega
    rw [this]
    rfl
  · rw [if_neg h]
    show Go.Lib.itoa n ++ [] = _
    rw [List.append_nil]
theorem fLp : Free wLp := free_one 40 (by decide) (by decide) (by decide) (by decide) (by decide) (by decide)
theorem fRp : Free wRp := free_one 41 (by decide) (by decide) (by decide) (by decide) (by decide) (by decide)
theorem fRb : Free wRb := free_one 93 (by decide) (by decide) (by decide) (by decide) (by decide) (by decide)
theorem fCm : Free wCm := free_one 44 (by decide) (by decide) (by decide) (by decide) (by decide) (by decide)
theorem fMi : Free wMi := free_one 45 (by decide) (by decide) (by decide) (by decide) (by decide) (by decide)
theorem fCc : Free wCc := free_two 58 58 (by decide) (by decide) (by decide)
theorem Sc.num {n : Int} (h0 : -2147483647 ≤ n) (h1 : n ≤ 2147483647) : Sc false (pnum n) := by
  unfold pnum
  by_cases h : n < 0
  · rw [if_pos h]
    exact Sc.free fMi (Sc.last (wd_num (by omega) (by omega)))
  · rw [if_neg h]
    exact Sc.last (wd_num (by omega) h1)
end Go.Proofs.YtaphnbaiamnfpaaGreatDoor.Px
namespace Go.Proofs.YtaphnbaiamnfpaaGreatDoor.Px
set_option linter.unusedVariables false
set_option linter.unusedSimpArgs false
open Lx (Tok bare scan tok put nm sm dg)

theorem Sc.on {b : Bool} {xs ys : List Pc} (hx : Sc b xs) (hy : Sc false ys) (hc : Hc ys) : Sc false (xs ++ ys) := Sc.app hx hy (.inr hc) (fun h => by cases h)
theorem Sc.wd {k n : Int} {s : List UInt8} {xs : List Pc} (hs : Wd k s n) (hc : Hc xs) (hx : Sc false xs) : Sc false (.t (k, s, n) :: xs) := Sc.word hs hc (fun h => by cases h) hx
theorem Hc.sp {r : List Pc} : Hc (.sp :: r) := Hc.of (p := .sp) rfl (by decide)
theorem Hc.lp {r : List Pc} : Hc (pg wLp :: r) := Hc.of (p := pg wLp) rfl (by decide)
theorem Hc.rp {r : List Pc} : Hc (pg wRp :: r) := Hc.of (p := pg wRp) rfl (by decide)
theorem Hc.rb {r : List Pc} : Hc (pg wRb :: r) := Hc.of (p := pg wRb) rfl (by decide)
theorem Hc.cm {r : List Pc} : Hc (pg wCm :: r) := Hc.of (p := pg wCm) rfl (by decide)
theorem Hc.cl {r : List Pc} : Hc (pg wCl :: r) := Hc.of (p := pg wCl) rfl (by decide)
theorem Hc.sl {r : List Pc} : Hc (pg wSl :: r) := Hc.of (p := pg wSl) rfl (by decide)
theorem Hc.sc {r : List Pc} : Hc (pg wSc :: r) := Hc.of (p := pg wSc) rfl (by decide)
theorem Hc.nl {r : List Pc} : Hc (.nl :: r) := Hc.of (p := .nl) rfl (by decide)
theorem Sc.end0 : Sc false [] := Sc.weak Sc.nil
theorem Sc.rp : Sc false [pg wRp] := Sc.free fRp Sc.end0
theorem Sc.rb : Sc false [pg wRb] := Sc.free fRb Sc.end0
theorem Sc.commas : ∀ l : List (List Pc), (∀ x ∈ l, Sc false x) → Sc false (commas l)
  | [], _ => Sc.end0
  | [x], h => h x (by simp)
  | x :: y :: r, h => Sc.on (h x (by simp)) (Sc.free fCm (Sc.sp (Sc.commas (y :: r) fun z hz => h z (List.mem_cons_of_mem _ hz)))) Hc.cm
theorem Sc.par {m : Nat} {x : Nat × List Pc} (h : Sc false x.2) : Sc false (par m x) := by
  unfold Px.par
  by_cases hm : x.1 < m
  · rw [if_pos hm]; exact Sc.free fLp (Sc.on h Sc.rp Hc.rp)
  · rw [if_neg hm]; exact h
theorem kw {s : List UInt8} (h1 : sm (s.headD 0) = true) (h2 : s.all nm = true) (h3 : s.length ≤ 24) (h4 : Lx.isWord s = true) {xs : List Pc} (hx : Sc false xs) : Sc false (pwd s :: .sp :: xs) :=
  Sc.wd (wd_word h1 h2 h3 h4) Hc.sp (Sc.sp hx)
theorem Sc.pop {s : List UInt8} (h0 : 0 < lvl s) (h7 : lvl s < 7) {xs : List Pc} (hx : Sc false xs) : Sc false (pop s :: .sp :: xs) := by
  unfold Px.pop
  by_cases h : s = wOr ∨ s = wAnd
  · rw [if_pos h]
    rcases h with rfl | rfl
    · exact kw (by decide) (by decide) (by decide) (by decide) hx
    · exact kw (by decide) (by decide) (by decide) (by decide) hx
  · rw [if_neg h]
    have hs : s = wEqEq ∨ s = wLt ∨ s = wLe ∨ s = wCc ∨ s = wPl ∨ s = wMi ∨ s = wTi ∨ s = wSl ∨ s = wPc := by
      unfold lvl at h0 h7
      by_cases a1 : s = wOr
      · exact absurd (.inl a1) h
      rw [if_neg a1] at h0 h7
      by_cases a2 : s = wAnd
      · exact absurd (.inr a2) h
      rw [if_neg a2] at h0 h7
      by_cases a3 : s = wEqEq ∨ s = wLt ∨ s = wLe
      · rcases a3 with a | a | a <;> simp [a]
      rw [if_neg a3] at h0 h7
      by_cases a4 : s = wCc
      · simp [a4]
      rw [if_neg a4] at h0 h7
      by_cases a5 : s = wPl ∨ s = wMi
      · rcases a5 with a | a <;> simp [a]
      rw [if_neg a5] at h0 h7
      by_cases a6 : s = wTi ∨ s = wSl ∨ s = wPc
      · rcases a6 with a | a | a <;> simp [a]
      rw [if_neg a6] at h0 h7
      by_cases a7 : s = wNot ∨ s = wNeg
      · rw [if_pos a7] at h7; omega
      · rw [if_neg a7] at h0; omega
    rcases hs with rfl | rfl | rfl | rfl | rfl | rfl | rfl | rfl | rfl
    · exact Sc.free (free_two 61 61 (by decide) (by decide) (by decide)) (Sc.sp hx)
    · exact Sc.sign (by decide) (by decide) (by decide) hx
    · exact Sc.free (free_two 60 61 (by decide) (by decide) (by decide)) (Sc.sp hx)
    · exact Sc.free fCc (Sc.sp hx)
    all_goals exact Sc.sign (by decide) (by decide) (by decide) hx
theorem Sc.names {ns : List (List UInt8)} (h : ∀ x ∈ ns, isName x = true) : Sc false (letn ns) := by
  unfold letn
  split
  · rename_i x
    exact Sc.last (wd_name (h x (by simp)))
  · refine Sc.free fLp (Sc.on (Sc.commas _ fun y hy => ?_) Sc.rp Hc.rp)
    obtain ⟨x, hx, rfl⟩ := List.mem_map.1 hy
    exact Sc.last (wd_name (h x hx))
theorem inO_iff {lo o : Int} : inO lo o = true ↔ lo ≤ o ∧ o ≤ 2147483647 := by unfold inO; simp
theorem Sc.num0 {o : Int} (h : inO 0 o = true) : Sc false (pnum o) := by
  rw [inO_iff] at h
  exact Sc.num (by omega) h.2
theorem Sc.num1 {o : Int} (h : inO (-2147483647) o = true) : Sc false (pnum o) := by
  rw [inO_iff] at h
  exact Sc.num h.1 h.2
theorem Sc.picks : ∀ (os : List Int) (L : List (Nat × List Pc)), (∀ o ∈ os, inO 0 o = true) → (∀ x ∈ L, Sc false x.2) → ∀ y ∈ picks os L, Sc false y
  | [], _, _, _, y, hy => by cases hy
  | _ :: _, [], _, _, y, hy => by cases hy
  | o :: os, x :: L, ho, hL, y, hy => by
    rcases List.mem_cons.1 hy with rfl | hy
    · exact Sc.on (Sc.num0 (ho o (by simp))) (Sc.sign (by decide) (by decide) (by decide) (hL x (by simp))) Hc.cl
    · exact Sc.picks os L (fun z hz => ho z (List.mem_cons_of_mem _ hz)) (fun z hz => hL z (List.mem_cons_of_mem _ hz)) y hy
theorem name_scan {s : List UInt8} (h : isName s = true) : ∃ a b c d, scan s 1 1 = .ok [⟨1, s, 0, a, b⟩, ⟨5, [], 0, c, d⟩] := by
  have hw := wd_name h
  have := scan_tok (z := []) hw.ne (hw.go [] (show nm 32 = false by decide)) 1 1
  rw [List.append_nil] at this
  exact ⟨1, 1, 1, _, by rw [this, scan]; rfl⟩
end Go.Proofs.YtaphnbaiamnfpaaGreatDoor.Px
namespace Go.Proofs.YtaphnbaiamnfpaaGreatDoor.Px
set_option linter.unusedVariables false
set_option linter.unusedSimpArgs false
open Lx (Tok bare scan tok nm sm dg takeWhile_all)

theorem tok_name {s : List UInt8} {n : Int} (h : tok s = .ok 1 s n) : isName s = true := by
  unfold tok at h
  by_cases h1 : sm (s.headD 0) = true
  · rw [if_pos h1] at h
    by_cases h2 : 24 < (s.takeWhile nm).length
    · rw [if_pos h2] at h; cases h
    · rw [if_neg h2] at h
      by_cases h3 : Lx.isWord (s.takeWhile nm) = true
      · rw [if_pos h3] at h; cases h
      · rw [if_neg h3] at h
        have e : s.takeWhile nm = s := by injection h
        rw [e] at h2 h3
        have ha : s.all nm = true := List.all_eq_true.2 fun c hc => takeWhile_all nm s c (by rw [e]; exact hc)
        unfold isName
        rw [h1, ha, decide_eq_true (by omega : s.length ≤ 24)]
        cases hq : Lx.isWord s with
        | true => exact absurd hq h3
        | false => rfl
  · rw [if_neg h1] at h
    by_cases h2 : dg (s.headD 0) = true
    · rw [if_pos h2] at h
      split at h
      · cases h
      · injection h with hk _ _; cases hk
    · rw [if_neg h2] at h
      split at h
      · cases h
      · injection h with hk _ _; cases hk
theorem name_of_scan {s : List UInt8} {ts : List Tok} (h : scan s 1 1 = .ok ts) (h0 : 0 < ts.length) (hk : (tk ts 0).kind = 1) (ht : (tk ts 0).text = s) : isName s = true := by
  obtain ⟨p, hp⟩ := Lx.scan_at s.length s 1 1 ts (Nat.le_refl _) h 0 h0
  rcases hp.what with ⟨_, h5⟩ | ⟨_, h5⟩
  · omega
  · have h6 := Lx.tok_take h5
    rw [ht] at h5 h6
    have hl : s.length ≤ (s.drop p).length := by
      have := congrArg List.length h6.1
      rw [List.length_take] at this
      omega
    rw [List.length_drop] at hl
    have hne : 0 < s.length := List.length_pos_iff.2 h6.2
    have : p = 0 := by omega
    subst this
    rw [List.drop_zero, hk] at h5
    exact tok_name h5
end Go.Proofs.YtaphnbaiamnfpaaGreatDoor.Px
namespace Go.Proofs.YtaphnbaiamnfpaaGreatDoor.Px
set_option linter.unusedVariables false
set_option linter.unusedSimpArgs false
theorem wEs_len : ∀ l : List E, l.length ≤ wEs l
  | [] => by rw [wEs]; exact Nat.le_refl _
  | x :: r => by
    have := wEs_len r
    have := wE_pos x
    rw [wEs, List.length_cons]
    omega
theorem wT_pos (t : T) : 1 ≤ wT t := by cases t; rw [wT]; omega
theorem wTs_len : ∀ l : List T, l.length ≤ wTs l
  | [] => by rw [wTs]; exact Nat.le_refl _
  | x :: r => by
    have := wTs_len r
    have := wT_pos x
    rw [wTs, List.length_cons]
    omega
mutual
def sameE : E → E → Bool
  | .mk k n s ns os ks _ _, .mk k' n' s' ns' os' ks' _ _ => (k == k') && ((n == n') && (decide (s = s') && (decide (ns = ns') && (decide (os = os') && sameEs ks ks'))))
def sameEs : List E → List E → Bool
  | [], [] => true
  | x :: a, y :: b => sameE x y && sameEs a b
  | [], _ :: _ => false
  | _ :: _, [] => false
end
mutual
def sameT : T → T → Bool
  | .mk k l, .mk k' l' => (k == k') && sameTs l l'
def sameTs : List T → List T → Bool
  | [], [] => true
  | x :: a, y :: b => sameT x y && sameTs a b
  | [], _ :: _ => false
  | _ :: _, [] => false
end
def eqL {α : Type} (f : α → α → Bool) : List α → List α → Bool
  | [], [] => true
  | x :: a, y :: b => f x y && eqL f a b
  | [], _ :: _ => false
  | _ :: _, [] => false
def sameF (a b : Fld) : Bool := decide (a.name = b.name) && sameT a.typ b.typ
def sameFn (a b : Fnc) : Bool := decide (a.name = b.name) && (eqL sameF a.params b.params && (sameT a.res b.res && sameE a.body b.body))
def sameP (a b : Pg) : Bool := eqL sameF a.inputs b.inputs && (eqL sameFn a.funs b.funs && sameE a.query b.query)
mutual
theorem sameE_alike : ∀ a b : E, sE a = sE b → sameE a b = true
  | .mk k n s ns os ks _ _, .mk k' n' s' ns' os' ks' _ _, h => by
    rw [sE_mk, sE_mk] at h
    injection h with h1 h2 h3 h4 h5 h6
    rw [sameE, h1, h2, h3, h4, h5, sameEs_alike ks ks' h6]
    simp
theorem sameEs_alike : ∀ a b : List E, sEs a = sEs b → sameEs a b = true
  | [], [], _ => by rw [sameEs]
  | x :: a, y :: b, h => by
    rw [sEs_cons, sEs_cons] at h
    injection h with h1 h2
    rw [sameEs, sameE_alike x y h1, sameEs_alike a b h2]
    rfl
  | [], y :: b, h => by rw [sEs_nil, sEs_cons] at h; cases h
  | x :: a, [], h => by rw [sEs_nil, sEs_cons] at h; cases h
end
mutual
theorem sameT_self : ∀ a : T, sameT a a = true
  | .mk k l => by rw [sameT, sameTs_self l]; simp
theorem sameTs_self : ∀ a : List T, sameTs a a = true
  | [] => by rw [sameTs]
  | x :: a => by rw [sameTs, sameT_self x, sameTs_self a]; rfl
end
mutual
def LenE : E → Prop
  | .mk _ _ _ ns os ks _ _ => (ns.length ≤ 140737488351232 ∧ os.length ≤ 140737488351232 ∧ ks.length ≤ 140737488351232) ∧ LenEs ks
def LenEs : List E → Prop
  | [] => True
  | x :: r => LenE x ∧ LenEs r
end
mutual
def LenT : T → Prop
  | .mk _ l => l.length ≤ 140737488351232 ∧ LenTs l
def LenTs : List T → Prop
  | [] => True
  | x :: r => LenT x ∧ LenTs r
end
structure LenFn (f : Fnc) : Prop where
  par : f.params.length ≤ 140737488351232
  typ : ∀ x ∈ f.params, LenT x.typ
  res : LenT f.res
  body : LenE f.body
structure LenP (p : Pg) : Prop where
  inl : p.inputs.length ≤ 140737488351232
  inp : ∀ x ∈ p.inputs, LenT x.typ
  fl : p.funs.length ≤ 140737488351232
  fn : ∀ x ∈ p.funs, LenFn x
  query : LenE p.query
mutual
theorem lenE_of : ∀ e : E, wE e ≤ 140737488351232 → LenE e
  | .mk k n s ns os ks a b, h => by
    rw [wE] at h
    rw [LenE]
    have := wEs_len ks
    exact ⟨⟨by omega, by omega, by omega⟩, lenEs_of ks (by omega)⟩
theorem lenEs_of : ∀ l : List E, wEs l ≤ 140737488351232 → LenEs l
  | [], _ => by rw [LenEs]; trivial
  | x :: r, h => by
    rw [wEs] at h
    rw [LenEs]
    exact ⟨lenE_of x (by omega), lenEs_of r (by omega)⟩
end
mutual
theorem lenT_of : ∀ t : T, wT t ≤ 140737488351232 → LenT t
  | .mk k l, h => by
    rw [wT] at h
    rw [LenT]
    have := wTs_len l
    exact ⟨by omega, lenTs_of l (by omega)⟩
theorem lenTs_of : ∀ l : List T, wTs l ≤ 140737488351232 → LenTs l
  | [], _ => by rw [LenTs]; trivial
  | x :: r, h => by
    rw [wTs] at h
    rw [LenTs]
    exact ⟨lenT_of x (by omega), lenTs_of r (by omega)⟩
end

def tE (e : E) : List UInt8 := txt (pE e)
def cmr : List (List UInt8) → List UInt8
  | [] => []
  | x :: r => [44, 32] ++ x ++ cmr r
def cms : List (List UInt8) → List UInt8
  | [] => []
  | x :: r => x ++ cmr r
theorem txt_commas : ∀ l : List (List Pc), txt (commas l) = cms (l.map txt)
  | [] => rfl
  | [x] => by rw [commas]; show _ = txt x ++ []; rw [List.append_nil]
  | x :: y :: r => by
    have ih := txt_commas (y :: r)
    rw [commas, txt_app]
    show txt x ++ ([44] ++ ([32] ++ txt (commas (y :: r)))) = txt x ++ ([44, 32] ++ txt y ++ cmr (r.map txt))
    rw [ih]
    simp [cms]
theorem kids_txt (ks : List E) : ((pKs ks).map (·.2)).map txt = ks.map tE := by
  rw [pKs_map, List.map_map, List.map_map]; rfl
def tAt (m : Nat) (e : E) : List UInt8 := if e.rk < m then [40] ++ tE e ++ [41] else tE e
theorem par_txt (m : Nat) (e : E) : txt (par m (e.rk, pE e)) = tAt m e := by
  unfold par tAt
  by_cases h : e.rk < m
  · rw [if_pos h, if_pos h]
    show [40] ++ txt (pE e ++ [pg wRp]) = _
    rw [txt_app]
    simp [tE, txt, Pc.txt, wRp]
  · rw [if_neg h, if_neg h]; rfl
theorem kd0 (x : E) (r : List E) : kd (pKs (x :: r)) 0 = (x.rk, pE x) := by rw [pKs]; rfl
theorem kd1 (x y : E) (r : List E) : kd (pKs (x :: y :: r)) 1 = (y.rk, pE y) := by rw [pKs, pKs]; rfl
theorem kd2 (x y z : E) (r : List E) : kd (pKs (x :: y :: z :: r)) 2 = (z.rk, pE z) := by rw [pKs, pKs, pKs]; rfl
section
variable (a b : Int)
theorem tx_num (n : Int) : tE (.mk 1 n [] [] [] [] a b) = Go.Lib.itoa n := by
  unfold tE; rw [pE]; exact txt_num n
theorem tx_bool (n : Int) : tE (.mk 2 n [] [] [] [] a b) = if n = 1 then wTrue else wFalse := by
  unfold tE; rw [pE]; exact List.append_nil _
theorem tx_var (s : List UInt8) : tE (.mk 3 0 s [] [] [] a b) = s := by
  unfold tE; rw [pE]; exact List.append_nil _
theorem tx_call (s : List UInt8) (ks : List E) : tE (.mk 4 0 s [] [] ks a b) = s ++ [40] ++ cms (ks.map tE) ++ [41] := by
  unfold tE; rw [pE]
  show s ++ ([40] ++ txt (commas ((pKs ks).map (·.2)) ++ [pg wRp])) = _
  rw [txt_app, txt_commas, kids_txt]
  simp [txt, Pc.txt, wRp]; rfl
theorem tx_tup (ks : List E) : tE (.mk 5 0 [] [] [] ks a b) = [40] ++ cms (ks.map tE) ++ [41] := by
  unfold tE; rw [pE]
  show ([40] ++ txt (commas ((pKs ks).map (·.2)) ++ [pg wRp])) = _
  rw [txt_app, txt_commas, kids_txt]
  simp [txt, Pc.txt, wRp]; rfl
theorem tx_list (ks : List E) : tE (.mk 6 0 [] [] [] ks a b) = [91] ++ cms (ks.map tE) ++ [93] := by
  unfold tE; rw [pE]
  show ([91] ++ txt (commas ((pKs ks).map (·.2)) ++ [pg wRb])) = _
  rw [txt_app, txt_commas, kids_txt]
  simp [txt, Pc.txt, wRb]; rfl
theorem tx_neg (x : E) : tE (.mk 7 0 wNeg [] [] [x] a b) = [45] ++ tAt 7 x := by
  unfold tE; rw [pE]
  show [45] ++ txt (par 7 (kd (pKs [x]) 0)) = _
  rw [kd0, par_txt]
theorem tx_not (x : E) : tE (.mk 7 0 wNot [] [] [x] a b) = [110, 111, 116, 32] ++ tAt 7 x := by
  unfold tE; rw [pE]
  show [110, 111, 116] ++ ([32] ++ txt (par 7 (kd (pKs [x]) 0))) = _
  rw [kd0, par_txt]; rfl
theorem pop_txt (s : List UInt8) : (pop s).txt = s := by unfold pop; split <;> rfl
theorem tx_bin (s : List UInt8) (x y : E) (h : lvl s < 7) : tE (.mk 7 0 s [] [] [x, y] a b) = tAt (lft s) x ++ [32] ++ s ++ [32] ++ tAt (rgt s) y := by
  have h1 : s ≠ wNeg := by intro e; subst e; revert h; decide
  have h2 : s ≠ wNot := by intro e; subst e; revert h; decide
  unfold tE; rw [pE]
  show txt (opf s (pKs [x, y])) = _
  unfold opf
  rw [if_neg h1, if_neg h2, kd0, kd1, txt_app, par_txt]
  show tAt (lft s) x ++ ([32] ++ ((pop s).txt ++ ([32] ++ txt (par (rgt s) (y.rk, pE y))))) = _
  rw [par_txt, pop_txt]
  simp
def tNs (ns : List (List UInt8)) : List UInt8 :=
  match ns with
  | [x] => x
  | l => [40] ++ cms l ++ [41]
theorem letn_txt (ns : List (List UInt8)) : txt (letn ns) = tNs ns := by
  match ns with
  | [x] => exact List.append_nil _
  | [] => rfl
  | x :: y :: r =>
    show [40] ++ txt (commas (([x, y] ++ r).map fun x => [pn x]) ++ [pg wRp]) = [40] ++ cms (x :: y :: r) ++ [41]
    rw [txt_app, txt_commas, List.map_map]
    have e : ([x, y] ++ r).map (txt ∘ fun x => [pn x]) = x :: y :: r := by
      rw [show (txt ∘ fun x => [pn x]) = id from funext fun z => List.append_nil z, List.map_id]; rfl
    rw [e]
    simp [txt, Pc.txt, wRp]
theorem tx_let (ns : List (List UInt8)) (x y : E) : tE (.mk 8 0 [] ns [] [x, y] a b) = [108, 101, 116, 32] ++ tNs ns ++ [32, 61, 32] ++ tE x ++ [32, 105, 110, 32] ++ tE y := by
  unfold tE; rw [pE]
  show [108, 101, 116] ++ ([32] ++ txt (letn ns ++ .sp :: pg wEq :: .sp :: ((kd (pKs [x, y]) 0).2 ++ .sp :: pwd wIn :: .sp :: (kd (pKs [x, y]) 1).2))) = _
  rw [txt_app, letn_txt]
  show [108, 101, 116] ++ ([32] ++ (tNs ns ++ ([32] ++ ([61] ++ ([32] ++ txt ((kd (pKs [x, y]) 0).2 ++ .sp :: pwd wIn :: .sp :: (kd (pKs [x, y]) 1).2)))))) = _
  rw [txt_app, kd0, kd1]
  show [108, 101, 116] ++ ([32] ++ (tNs ns ++ ([32] ++ ([61] ++ ([32] ++ (txt (pE x) ++ ([32] ++ ([105, 110] ++ ([32] ++ txt (pE y)))))))))) = _
  simp
theorem tx_if (x y z : E) : tE (.mk 9 0 [] [] [] [x, y, z] a b) = [105, 102, 32] ++ tE x ++ [32, 116, 104, 101, 110, 32] ++ tE y ++ [32, 101, 108, 115, 101, 32] ++ tE z := by
  unfold tE; rw [pE]
  show [105, 102] ++ ([32] ++ txt ((kd (pKs [x, y, z]) 0).2 ++ .sp :: pwd wThen :: .sp :: ((kd (pKs [x, y, z]) 1).2 ++ .sp :: pwd wElse :: .sp :: (kd (pKs [x, y, z]) 2).2))) = _
  rw [txt_app, kd0, kd1, kd2]
  show [105, 102] ++ ([32] ++ (txt (pE x) ++ ([32] ++ ([116, 104, 101, 110] ++ ([32] ++ txt (pE y ++ .sp :: pwd wElse :: .sp :: pE z)))))) = _
  rw [txt_app]
  show [105, 102] ++ ([32] ++ (txt (pE x) ++ ([32] ++ ([116, 104, 101, 110] ++ ([32] ++ (txt (pE y) ++ ([32] ++ ([101, 108, 115, 101] ++ ([32] ++ txt (pE z)))))))))) = _
  simp
theorem tx_case (p q : List UInt8) (x y z : E) : tE (.mk 10 0 [] [p, q] [] [x, y, z] a b) = [99, 97, 115, 101, 32] ++ tE x ++ [32, 111, 102, 32, 91, 93, 32, 61, 62, 32] ++ tE y ++ [32, 124, 32] ++ p ++ [32, 58, 58, 32] ++ q ++ [32, 61, 62, 32] ++ tE z := by
  unfold tE; rw [pE]
  show [99, 97, 115, 101] ++ ([32] ++ txt ((kd (pKs [x, y, z]) 0).2 ++ .sp :: pwd wOf :: .sp :: pg wLb :: pg wRb :: .sp :: pg wAr :: .sp :: ((kd (pKs [x, y, z]) 1).2 ++
    .sp :: pg wBar :: .sp :: pn p :: .sp :: pg wCc :: .sp :: pn q :: .sp :: pg wAr :: .sp :: (kd (pKs [x, y, z]) 2).2))) = _
  rw [txt_app, kd0, kd1, kd2]
  show [99, 97, 115, 101] ++ ([32] ++ (txt (pE x) ++ ([32] ++ ([111, 102] ++ ([32] ++ ([91] ++ ([93] ++ ([32] ++ ([61, 62] ++ ([32] ++ txt (pE y ++
    .sp :: pg wBar :: .sp :: pn p :: .sp :: pg wCc :: .sp :: pn q :: .sp :: pg wAr :: .sp :: pE z))))))))))) = _
  rw [txt_app]
  show [99, 97, 115, 101] ++ ([32] ++ (txt (pE x) ++ ([32] ++ ([111, 102] ++ ([32] ++ ([91] ++ ([93] ++ ([32] ++ ([61, 62] ++ ([32] ++ (txt (pE y) ++
    ([32] ++ ([124] ++ ([32] ++ (p ++ ([32] ++ ([58, 58] ++ ([32] ++ (q ++ ([32] ++ ([61, 62] ++ ([32] ++ txt (pE z))))))))))))))))))))))) = _
  simp
theorem tx_obs (x y : E) : tE (.mk 11 0 [] [] [] [x, y] a b) = [111, 98, 115, 101, 114, 118, 101, 32] ++ tE x ++ [32, 105, 110, 32] ++ tE y := by
  unfold tE; rw [pE]
  show [111, 98, 115, 101, 114, 118, 101] ++ ([32] ++ txt ((kd (pKs [x, y]) 0).2 ++ .sp :: pwd wIn :: .sp :: (kd (pKs [x, y]) 1).2)) = _
  rw [txt_app, kd0, kd1]
  show [111, 98, 115, 101, 114, 118, 101] ++ ([32] ++ (txt (pE x) ++ ([32] ++ ([105, 110] ++ ([32] ++ txt (pE y)))))) = _
  simp
theorem tx_score (p q : Int) (x : E) : tE (.mk 12 0 [] [] [p, q] [x] a b) = [115, 99, 111, 114, 101, 32] ++ Go.Lib.itoa p ++ [47] ++ Go.Lib.itoa q ++ [32, 105, 110, 32] ++ tE x := by
  unfold tE; rw [pE]
  show [115, 99, 111, 114, 101] ++ ([32] ++ txt (pnum p ++ pg wSl :: (pnum q ++ .sp :: pwd wIn :: .sp :: (kd (pKs [x]) 0).2))) = _
  rw [txt_app, kd0, txt_num]
  show [115, 99, 111, 114, 101] ++ ([32] ++ (Go.Lib.itoa p ++ ([47] ++ txt (pnum q ++ .sp :: pwd wIn :: .sp :: pE x)))) = _
  rw [txt_app, txt_num]
  show [115, 99, 111, 114, 101] ++ ([32] ++ (Go.Lib.itoa p ++ ([47] ++ (Go.Lib.itoa q ++ ([32] ++ ([105, 110] ++ ([32] ++ txt (pE x)))))))) = _
  simp
def tPk : List Int → List E → List (List UInt8)
  | o :: os, x :: r => (Go.Lib.itoa o ++ [58, 32] ++ tE x) :: tPk os r
  | _, _ => []
theorem picks_txt : ∀ (os : List Int) (ks : List E), (picks os (pKs ks)).map txt = tPk os ks
  | [], ks => by rw [picks]; rfl; intro _ _ _ _ h; cases h
  | o :: os, [] => by rw [pKs, picks]; rfl; intro _ _ _ _ _ h; cases h
  | o :: os, x :: r => by
    rw [pKs, picks, List.map_cons, picks_txt os r, tPk, txt_app, txt_num]
    show (Go.Lib.itoa o ++ ([58] ++ ([32] ++ txt (pE x)))) :: _ = _
    simp [tE]
theorem tx_pick (os : List Int) (ks : List E) : tE (.mk 13 0 [] [] os ks a b) = [112, 105, 99, 107, 32, 123, 32] ++ cms (tPk os ks) ++ [32, 125] := by
  unfold tE; rw [pE]
  show [112, 105, 99, 107] ++ ([32] ++ ([123] ++ ([32] ++ txt (commas (picks os (pKs ks)) ++ [.sp, pg wRc])))) = _
  rw [txt_app, txt_commas, picks_txt]
  simp [txt, Pc.txt, wRc]
theorem tx_flip (p q : Int) : tE (.mk 14 0 [] [] [p, q] [] a b) = [102, 108, 105, 112, 40] ++ Go.Lib.itoa p ++ [47] ++ Go.Lib.itoa q ++ [41] := by
  unfold tE; rw [pE]
  show [102, 108, 105, 112] ++ ([40] ++ txt (pnum p ++ pg wSl :: (pnum q ++ [pg wRp]))) = _
  rw [txt_app, txt_num]
  show [102, 108, 105, 112] ++ ([40] ++ (Go.Lib.itoa p ++ ([47] ++ txt (pnum q ++ [pg wRp])))) = _
  rw [txt_app, txt_num]
  simp [txt, Pc.txt, wRp]
theorem tx_range (p q : Int) : tE (.mk 15 0 [] [] [p, q] [] a b) = [114, 97, 110, 103, 101, 40] ++ Go.Lib.itoa p ++ [44, 32] ++ Go.Lib.itoa q ++ [41] := by
  unfold tE; rw [pE]
  show [114, 97, 110, 103, 101] ++ ([40] ++ txt (pnum p ++ pg wCm :: .sp :: (pnum q ++ [pg wRp]))) = _
  rw [txt_app, txt_num]
  show [114, 97, 110, 103, 101] ++ ([40] ++ (Go.Lib.itoa p ++ ([44] ++ ([32] ++ txt (pnum q ++ [pg wRp]))))) = _
  rw [txt_app, txt_num]
  simp [txt, Pc.txt, wRp]
end

theorem isName_ne {s : List UInt8} (h : isName s = true) : s ≠ [] := by
  rintro rfl
  unfold isName at h
  revert h
  decide
theorem isName_24 {s : List UInt8} (h : isName s = true) : s.length ≤ 24 := by
  unfold isName at h
  simp only [Bool.and_eq_true, decide_eq_true_eq] at h
  exact h.1.2
theorem dec_ten : ∀ (k u : Nat), u < 10 ^ (k + 1) → (Go.Lib.decDigits u).length ≤ k + 1
  | 0, u, h => by rw [Go.Lib.decDigits_one (by omega)]; simp
  | k + 1, u, h => by
    by_cases h10 : u < 10
    · rw [Go.Lib.decDigits_one h10]; simp
    · rw [dec_step h10, List.length_append]
      have := dec_ten k (u / 10) (by rw [Nat.pow_succ] at h; omega)
      simp only [List.length_cons, List.length_nil]
      omega
theorem itoa_12 {n : Int} (h0 : -2147483647 ≤ n) (h1 : n ≤ 2147483647) : (Go.Lib.itoa n).length ≤ 12 := by
  by_cases h : n < 0
  · rw [itoa_min h, List.length_cons]
    have := dec_ten 9 n.natAbs (by omega)
    omega
  · rw [itoa_pos (by omega)]
    have := dec_ten 9 n.toNat (by omega)
    omega
theorem itoa_ne (n : Int) : Go.Lib.itoa n ≠ [] := by
  by_cases h : n < 0
  · rw [itoa_min h]; exact fun h => by cases h
  · rw [itoa_pos (by omega)]; exact dec_ne _
theorem inO_bd {lo o : Int} (h : inO lo o = true) : lo ≤ o ∧ o ≤ 2147483647 := by
  unfold inO at h
  simpa using h
theorem cms_len (l : List (List UInt8)) (ks : List E) (h : l = ks.map tE) (H : ∀ x ∈ ks, (tE x).length + 4 ≤ 100 * wE x) : (cms l).length ≤ 100 * wEs ks := by
  subst h
  have hr : ∀ ks : List E, (∀ x ∈ ks, (tE x).length + 4 ≤ 100 * wE x) → (cmr (ks.map tE)).length ≤ 100 * wEs ks := fun ks => by
    induction ks with
    | nil => intro _; exact Nat.zero_le _
    | cons x r ih =>
      intro H
      have := H x (by simp)
      have := ih fun y hy => H y (by simp [hy])
      simp only [List.map_cons, cmr, List.length_append, List.length_cons, List.length_nil, wEs_cons]
      omega
  cases ks with
  | nil => exact Nat.zero_le _
  | cons x r =>
    have := H x (by simp)
    have := hr r fun y hy => H y (by simp [hy])
    simp only [List.map_cons, cms, List.length_append, wEs_cons]
    omega
theorem pk_len : ∀ (os : List Int) (ks : List E), (∀ x ∈ os, inO 0 x = true) → (∀ x ∈ ks, (tE x).length + 4 ≤ 100 * wE x) → (cmr (tPk os ks)).length ≤ 100 * wEs ks + 100 * os.length
  | [], ks, _, _ => by cases ks <;> exact Nat.zero_le _
  | o :: os, [], _, _ => Nat.zero_le _
  | o :: os, x :: r, ho, H => by
    have := H x (by simp)
    have := pk_len os r (fun z hz => ho z (by simp [hz])) fun y hy => H y (by simp [hy])
    have hi := inO_bd (ho o (by simp))
    have := itoa_12 (n := o) (by omega) hi.2
    rw [tPk, cmr]
    simp only [List.length_append, List.length_cons, List.length_nil, wEs_cons]
    omega
theorem cms_le (l : List (List UInt8)) : (cms l).length ≤ (cmr l).length := by
  cases l with
  | nil => exact Nat.le_refl _
  | cons x r => simp only [cms, cmr, List.length_append]; omega
theorem at_len (m : Nat) (e : E) : (tAt m e).length ≤ (tE e).length + 2 := by
  unfold tAt
  split
  · simp only [List.length_append, List.length_cons, List.length_nil]; omega
  · omega
theorem lvl_len {s : List UInt8} (h : 0 < lvl s) : s.length ≤ 3 := by
  unfold lvl at h
  repeat' split at h
  all_goals first | (exact absurd h (by decide)) | skip
  all_goals (rename_i hs; first | (subst hs; decide) | (rcases hs with rfl | rfl | rfl <;> decide) | (rcases hs with rfl | rfl <;> decide))
theorem ns_len (ns : List (List UInt8)) (h : ∀ x ∈ ns, isName x = true) : (tNs ns).length ≤ 26 * ns.length + 2 := by
  have hr : ∀ (l : List (List UInt8)), (∀ x ∈ l, isName x = true) → (cmr l).length ≤ 26 * l.length := fun l => by
    induction l with
    | nil => intro _; exact Nat.le_refl _
    | cons q r ih =>
      intro hq
      have := isName_24 (hq q (by simp))
      have := ih fun w hw => hq w (by simp [hw])
      simp only [cmr, List.length_append, List.length_cons, List.length_nil]
      omega
  match ns, h with
  | [], _ => decide
  | [x], h =>
    have := isName_24 (h x (by simp))
    simp only [tNs, List.length_cons, List.length_nil]
    omega
  | x :: y :: r, h =>
    have := hr _ h
    have := cms_le (x :: y :: r)
    simp only [tNs, List.length_append, List.length_cons, List.length_nil] at *
    omega
theorem text_len : ∀ (d : Nat) (e : E), rightE d e = true → (tE e).length + 4 ≤ 100 * wE e ∧ tE e ≠ []
  | 0, .mk .., h => by rw [rightE] at h; cases h
  | d + 1, .mk k n s ns os ks a b, h => by
    rw [rightE, Bool.and_eq_true] at h
    have hr := rightEs_mem h.2
    have hs := shp_of h.1
    have H : ∀ x ∈ ks, (tE x).length + 4 ≤ 100 * wE x := fun x hx => (text_len d x (hr x hx)).1
    generalize hnk : ks.length = nk at hs
    have nil_in : ks.length = 0 → ks = [] := List.eq_nil_of_length_eq_zero
    have one_in : ks.length = 1 → ∃ x, ks = [x] := fun h => List.length_eq_one_iff.1 h
    have two_in : ks.length = 2 → ∃ x y, ks = [x, y] := fun h => by
      match ks, h with
      | [x, y], _ => exact ⟨x, y, rfl⟩
    have three_in : ks.length = 3 → ∃ x y z, ks = [x, y, z] := fun h => by
      match ks, h with
      | [x, y, z], _ => exact ⟨x, y, z, rfl⟩
    cases hs with
    | num _ h1 h2 =>
      obtain rfl := nil_in hnk
      rw [tx_num, wE_mk]
      have := itoa_12 (n := n) (by omega) h2
      exact ⟨by simp only [List.length_nil, wEs_nil]; omega, itoa_ne n⟩
    | bool _ h1 =>
      obtain rfl := nil_in hnk
      rw [tx_bool, wE_mk, wEs_nil]
      split <;> exact ⟨by decide, by decide⟩
    | var _ h1 =>
      obtain rfl := nil_in hnk
      rw [tx_var, wE_mk]
      have := isName_24 h1
      exact ⟨by simp only [List.length_nil, wEs_nil]; omega, isName_ne h1⟩
    | call _ _ h1 =>
      rw [tx_call, wE_mk]
      have := isName_24 h1
      have := cms_len _ ks rfl H
      exact ⟨by simp only [List.length_append, List.length_nil, List.length_cons]; omega, by simp⟩
    | tup _ h1 h2 =>
      rw [tx_tup, wE_mk]
      have := cms_len _ ks rfl H
      exact ⟨by simp only [List.length_append, List.length_nil, List.length_cons]; omega, by simp⟩
    | list _ =>
      rw [tx_list, wE_mk]
      have := cms_len _ ks rfl H
      exact ⟨by simp only [List.length_append, List.length_nil, List.length_cons]; omega, by simp⟩
    | un _ h1 =>
      obtain ⟨x, rfl⟩ := one_in hnk
      have := H x (by simp)
      have := at_len 7 x
      rw [wE_mk, wEs_cons, wEs_nil]
      rcases h1 with rfl | rfl
      · rw [tx_neg]
        exact ⟨by simp only [List.length_append, List.length_nil, List.length_cons]; omega, by simp⟩
      · rw [tx_not]
        exact ⟨by simp only [List.length_append, List.length_nil, List.length_cons]; omega, by simp⟩
    | bin _ h1 h2 =>
      obtain ⟨x, y, rfl⟩ := two_in hnk
      have := H x (by simp)
      have := H y (by simp)
      have := at_len (lft s) x
      have := at_len (rgt s) y
      have := lvl_len h1
      rw [tx_bin a b s x y h2, wE_mk, wEs_cons, wEs_cons, wEs_nil]
      exact ⟨by simp only [List.length_append, List.length_nil, List.length_cons]; omega, by simp⟩
    | let_ _ h1 h2 h3 =>
      obtain ⟨x, y, rfl⟩ := two_in hnk
      have := H x (by simp)
      have := H y (by simp)
      have := ns_len ns h3
      rw [tx_let, wE_mk, wEs_cons, wEs_cons, wEs_nil]
      exact ⟨by simp only [List.length_append, List.length_nil, List.length_cons]; omega, by simp⟩
    | if_ =>
      obtain ⟨x, y, z, rfl⟩ := three_in hnk
      have := H x (by simp)
      have := H y (by simp)
      have := H z (by simp)
      rw [tx_if, wE_mk, wEs_cons, wEs_cons, wEs_cons, wEs_nil]
      exact ⟨by simp only [List.length_append, List.length_nil, List.length_cons]; omega, by simp⟩
    | case_ p q h1 h2 =>
      obtain ⟨x, y, z, rfl⟩ := three_in hnk
      have := H x (by simp)
      have := H y (by simp)
      have := H z (by simp)
      have := isName_24 h1
      have := isName_24 h2
      rw [tx_case, wE_mk, wEs_cons, wEs_cons, wEs_cons, wEs_nil]
      exact ⟨by simp only [List.length_append, List.length_nil, List.length_cons]; omega, by simp⟩
    | obs =>
      obtain ⟨x, y, rfl⟩ := two_in hnk
      have := H x (by simp)
      have := H y (by simp)
      rw [tx_obs, wE_mk, wEs_cons, wEs_cons, wEs_nil]
      exact ⟨by simp only [List.length_append, List.length_nil, List.length_cons]; omega, by simp⟩
    | score p q hp hq =>
      obtain ⟨x, rfl⟩ := one_in hnk
      have := H x (by simp)
      have hp := inO_bd hp; have hq := inO_bd hq
      have := itoa_12 (n := p) (by omega) hp.2
      have := itoa_12 (n := q) (by omega) hq.2
      rw [tx_score, wE_mk, wEs_cons, wEs_nil]
      exact ⟨by simp only [List.length_append, List.length_nil, List.length_cons]; omega, by simp⟩
    | pick _ h1 h2 =>
      have := pk_len os ks h2 H
      have := cms_le (tPk os ks)
      rw [tx_pick, wE_mk]
      exact ⟨by simp only [List.length_append, List.length_nil, List.length_cons]; omega, by simp⟩
    | flip p q hp hq =>
      obtain rfl := nil_in hnk
      have hp := inO_bd hp; have hq := inO_bd hq
      have := itoa_12 (n := p) (by omega) hp.2
      have := itoa_12 (n := q) (by omega) hq.2
      rw [tx_flip, wE_mk, wEs_nil]
      exact ⟨by simp only [List.length_append, List.length_nil, List.length_cons]; omega, by simp⟩
    | range p q hp hq =>
      obtain rfl := nil_in hnk
      have hp := inO_bd hp; have hq := inO_bd hq
      have := itoa_12 (n := p) (by omega) hp.2
      have := itoa_12 (n := q) (by omega) hq.2
      rw [tx_range, wE_mk, wEs_nil]
      exact ⟨by simp only [List.length_append, List.length_nil, List.length_cons]; omega, by simp⟩

def tT (t : T) : List UInt8 := txt (pT t)
theorem tT_mk (k : Int) (l : List T) : tT (.mk k l) = if k = 1 then wBool else if k = 2 then wInt else if k = 3 then [40] ++ cms (l.map tT) ++ [41] else [91] ++ cms (l.map tT) ++ [93] := by
  unfold tT
  rw [pT]
  by_cases k1 : k = 1
  · rw [if_pos k1, if_pos k1]; exact List.append_nil _
  rw [if_neg k1, if_neg k1]
  by_cases k2 : k = 2
  · rw [if_pos k2, if_pos k2]; exact List.append_nil _
  rw [if_neg k2, if_neg k2]
  have h : (pTs l).map txt = l.map fun t => txt (pT t) := by rw [pTs_map, List.map_map]; rfl
  by_cases k3 : k = 3
  · rw [if_pos k3, if_pos k3]
    show [40] ++ txt (commas (pTs l) ++ [pg wRp]) = _
    rw [txt_app, txt_commas, h]
    simp [txt, Pc.txt, wRp]
  · rw [if_neg k3, if_neg k3]
    show [91] ++ txt (commas (pTs l) ++ [pg wRb]) = _
    rw [txt_app, txt_commas, h]
    simp [txt, Pc.txt, wRb]
def tF (f : Fld) : List UInt8 := f.name ++ [58, 32] ++ tT f.typ
def tI (f : Fld) : List UInt8 := [105, 110, 112, 117, 116, 32] ++ tF f ++ [59, 10]
def tFn (g : Fnc) : List UInt8 := [102, 117, 110, 32] ++ g.name ++ [40] ++ cms (g.params.map tF) ++ [41, 58, 32] ++ tT g.res ++ [32, 61, 32] ++ tE g.body ++ [59, 10]
def tIs : List Fld → List UInt8
  | [] => []
  | f :: r => tI f ++ tIs r
def tFns : List Fnc → List UInt8
  | [] => []
  | f :: r => tFn f ++ tFns r
def tP (p : Pg) : List UInt8 := tIs p.inputs ++ tFns p.funs ++ tE p.query ++ [10]

theorem cms_bd {α : Type} (f : α → List UInt8) (w : α → Nat) (c : Nat) : ∀ (l : List α), (∀ x ∈ l, (f x).length + 2 ≤ c * w x) → (cmr (l.map f)).length ≤ (l.map fun x => c * w x).sum
  | [], _ => Nat.zero_le _
  | x :: r, H => by
    have := H x (by simp)
    have := cms_bd f w c r fun y hy => H y (by simp [hy])
    simp only [List.map_cons, cmr, List.length_append, List.length_cons, List.length_nil, List.sum_cons]
    omega
theorem wTs_sum (c : Nat) : ∀ l : List T, (l.map fun x => c * wT x).sum = c * wTs l
  | [] => by rw [wTs_nil]; rfl
  | x :: r => by rw [List.map_cons, List.sum_cons, wTs_sum c r, wTs_cons, Nat.mul_add]
theorem type_len : ∀ (d : Nat) (t : T), rightT d t = true → (tT t).length + 4 ≤ 10 * wT t
  | 0, .mk .., h => by rw [rightT] at h; cases h
  | d + 1, .mk k l, h => by
    rw [rightT, Bool.and_eq_true] at h
    have H : ∀ x ∈ l, (tT x).length + 2 ≤ 10 * wT x := fun x hx => by have := type_len d x (rightTs_mem h.2 x hx); omega
    have h1 := cms_bd tT wT 10 l H
    have h2 := cms_le (l.map tT)
    rw [wTs_sum] at h1
    rw [tT_mk, wT_mk]
    split
    · show 4 + 4 ≤ _; omega
    split
    · show 3 + 4 ≤ _; omega
    split <;> (simp only [List.length_append, List.length_cons, List.length_nil]; omega)
theorem tIs_len (B : Nat) : ∀ l : List Fld, (∀ f ∈ l, (tI f).length ≤ B) → (tIs l).length ≤ B * l.length
  | [], _ => Nat.zero_le _
  | f :: r, H => by
    have := H f (by simp)
    have := tIs_len B r fun g hg => H g (by simp [hg])
    rw [tIs, List.length_append, List.length_cons, Nat.mul_add]
    omega
theorem tFns_len (B : Nat) : ∀ l : List Fnc, (∀ f ∈ l, (tFn f).length ≤ B) → (tFns l).length ≤ B * l.length
  | [], _ => Nat.zero_le _
  | f :: r, H => by
    have := H f (by simp)
    have := tFns_len B r fun g hg => H g (by simp [hg])
    rw [tFns, List.length_append, List.length_cons, Nat.mul_add]
    omega
theorem cmr_len (B : Nat) : ∀ l : List (List UInt8), (∀ x ∈ l, x.length ≤ B) → (cmr l).length ≤ (B + 2) * l.length
  | [], _ => Nat.zero_le _
  | x :: r, H => by
    have := H x (by simp)
    have := cmr_len B r fun g hg => H g (by simp [hg])
    simp only [cmr, List.length_append, List.length_cons, List.length_nil, Nat.mul_add, Nat.mul_one]
    omega
structure Mild (p : Pg) : Prop where
  il : p.inputs.length ≤ 100
  fl : p.funs.length ≤ 100
  inp : ∀ f ∈ p.inputs, wT f.typ ≤ 100000
  par : ∀ g ∈ p.funs, g.params.length ≤ 100
  typ : ∀ g ∈ p.funs, ∀ f ∈ g.params, wT f.typ ≤ 100000
  res : ∀ g ∈ p.funs, wT g.res ≤ 100000
  body : ∀ g ∈ p.funs, wE g.body ≤ 100000
  query : wE p.query ≤ 100000
theorem field_len {f : Fld} (h : rightF f = true) (hw : wT f.typ ≤ 100000) : (tF f).length ≤ 1000026 := by
  unfold rightF at h
  rw [Bool.and_eq_true] at h
  have := isName_24 h.1
  have := type_len 40 _ h.2
  simp only [tF, List.length_append, List.length_cons, List.length_nil]
  omega
theorem prog_len {p : Pg} (h : rightP p = true) (m : Mild p) : (tP p).length ≤ 1000000000000 := by
  unfold rightP at h
  simp only [Bool.and_eq_true, List.all_eq_true] at h
  obtain ⟨⟨h1, h2⟩, h3⟩ := h
  have a1 := tIs_len 1000034 p.inputs fun f hf => by
    have := field_len (h1 f hf) (m.inp f hf)
    simp only [tI, List.length_append, List.length_cons, List.length_nil]
    omega
  have a2 := tFns_len 300000000 p.funs fun g hg => by
    have hr := h2 g hg
    unfold rightFn at hr
    simp only [Bool.and_eq_true, List.all_eq_true] at hr
    have b1 := isName_24 hr.1.1.2
    have b2 := type_len 40 _ hr.1.2
    have b3 := (text_len 40 _ hr.2).1
    have b4 := m.res g hg
    have b5 := m.body g hg
    have b6 := cmr_len 1000026 (g.params.map tF) fun x hx => by
      obtain ⟨f, hf, rfl⟩ := List.mem_map.1 hx
      exact field_len (hr.1.1.1 f hf) (m.typ g hg f hf)
    have b7 := cms_le (g.params.map tF)
    have b8 := m.par g hg
    rw [List.length_map] at b6
    have b9 : 1000028 * g.params.length ≤ 1000028 * 100 := Nat.mul_le_mul_left _ b8
    simp only [tFn, List.length_append, List.length_cons, List.length_nil]
    omega
  have a3 := (text_len 40 _ h3).1
  have a4 := m.query
  have a5 : 1000034 * p.inputs.length ≤ 1000034 * 100 := Nat.mul_le_mul_left _ m.il
  have a6 : 300000000 * p.funs.length ≤ 300000000 * 100 := Nat.mul_le_mul_left _ m.fl
  simp only [tP, List.length_append, List.length_cons, List.length_nil]
  omega
end Go.Proofs.YtaphnbaiamnfpaaGreatDoor.Px
