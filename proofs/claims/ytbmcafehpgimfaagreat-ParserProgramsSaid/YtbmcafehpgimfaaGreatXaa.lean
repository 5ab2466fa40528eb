/- The plain scanner over lists of bytes, and what is true of it: no program in sight. Syntax trees; the grammar as readers of a small language; what reading with a given fuel does. Reading without fuel: the readings' one meaning. -/
import Derived.Lib.Index
import Derived.Lib.IndexMore
namespace Go.Proofs.YtbmcafehpgimfaaGreat.Lx
open Go

def sm (c : UInt8) : Bool := decide (97 ≤ c.toNat) && decide (c.toNat ≤ 122)
def dg (c : UInt8) : Bool := decide (48 ≤ c.toNat) && decide (c.toNat ≤ 57)
def nm (c : UInt8) : Bool := sm c || dg c || decide (c.toNat = 95)
def ws (c : UInt8) : Bool := decide (c.toNat = 32) || decide (c.toNat = 9) || decide (c.toNat = 13)
def nnl (c : UInt8) : Bool := !decide (c.toNat = 10)

def wordList : List (List UInt8) := [[97, 110, 100], [98, 111, 111, 108], [99, 97, 115, 101], [101, 108, 115, 101], [102, 97, 108, 115, 101], [102, 108, 105, 112], [102, 117, 110], [105, 102], [105, 110], [105, 110, 112, 117, 116], [105, 110, 116], [108, 101, 116], [110, 111, 116], [111, 98, 115, 101, 114, 118, 101], [111, 102], [111, 114], [112, 105, 99, 107], [114, 97, 110, 103, 101], [115, 99, 111, 114, 101], [116, 104, 101, 110], [116, 114, 117, 101]]
def has (ws : List (List UInt8)) (w : List UInt8) : Bool := ws.contains w
def hasB (l : List UInt8) (c : UInt8) : Bool := l.contains c
def isWord (w : List UInt8) : Bool := has wordList w

def val (w : List UInt8) : Nat := w.foldl (fun a c => a * 10 + (c.toNat - 48)) 0

def ones : List UInt8 := [40, 41, 91, 93, 123, 125, 44, 59, 58, 124, 43, 45, 42, 47, 37, 61, 60]
def twos : List (List UInt8) := [[61, 61], [61, 62], [60, 61], [58, 58]]
def sgn (l : List UInt8) : List UInt8 := if has twos (l.take 2) then l.take 2 else if hasB ones (l.headD 0) then l.take 1 else []

inductive R where
  | ok (kind : Int) (text : List UInt8) (n : Int)
  | bad (e : Int) (text : List UInt8)

def tok (l : List UInt8) : R :=
  if sm (l.headD 0) then
    (if 24 < (l.takeWhile nm).length then .bad 2 (l.takeWhile nm) else if isWord (l.takeWhile nm) then .ok 2 (l.takeWhile nm) 0 else .ok 1 (l.takeWhile nm) 0)
  else if dg (l.headD 0) then
    (if 2147483647 < val (l.takeWhile dg) then .bad 2 (l.takeWhile dg) else .ok 3 (l.takeWhile dg) (val (l.takeWhile dg)))
  else if sgn l = [] then .bad 10 (l.take 1) else .ok 4 (sgn l) 0

structure Tok where
  kind : Int
  text : List UInt8
  n : Int
  line : Int
  col : Int
deriving DecidableEq

structure Flt where
  e : Int
  text : List UInt8
  line : Int
  col : Int
deriving DecidableEq

def scan : List UInt8 → Int → Int → Except Flt (List Tok)
  | [], line, col => .ok [⟨5, [], 0, line, col⟩]
  | c :: t, line, col =>
    if c.toNat = 10 then scan t (line + 1) 1
    else if ws c then scan t line (col + 1)
    else if c.toNat = 35 then scan (t.dropWhile nnl) line (col + 1 + (t.takeWhile nnl).length)
    else match tok (c :: t) with
      | .bad e w => .error ⟨e, w, line, col⟩
      | .ok k w n => match scan (t.drop (w.length - 1)) line (col + w.length) with
        | .error f => .error f
        | .ok l => .ok (⟨k, w, n, line, col⟩ :: l)
termination_by l => l.length
decreasing_by
  all_goals simp only [List.length_cons, List.length_drop]
  all_goals (try have := (List.dropWhile_sublist (p := nnl) (l := t)).length_le)
  all_goals omega

theorem takeWhile_len (p : UInt8 → Bool) (l : List UInt8) : l.take (l.takeWhile p).length = l.takeWhile p := by
  induction l with
  | nil => rfl
  | cons c t ih =>
    by_cases h : p c = true
    · rw [List.takeWhile_cons_of_pos h]; simp [ih]
    · rw [List.takeWhile_cons_of_neg h]; rfl

theorem sm_nm {c : UInt8} (h : sm c = true) : nm c = true := by simp [nm, h]

theorem sgn_take (l : List UInt8) : sgn l = l.take (sgn l).length := by
  unfold sgn
  split
  · simp
  · split
    · simp
    · rfl

theorem tok_take {l : List UInt8} {k : Int} {w : List UInt8} {n : Int} (h : tok l = .ok k w n) : w = l.take w.length ∧ w ≠ [] := by
  unfold tok at h
  split at h
  · rename_i hs
    have hne : l.takeWhile nm ≠ [] := by
      cases l with
      | nil => exact absurd hs (by decide)
      | cons c t => rw [List.takeWhile_cons_of_pos (show nm c = true from sm_nm hs)]; simp
    split at h
    · cases h
    · split at h <;> (cases h; exact ⟨(takeWhile_len nm l).symm, hne⟩)
  · split at h
    · rename_i hs
      have hne : l.takeWhile dg ≠ [] := by
        cases l with
        | nil => exact absurd hs (by decide)
        | cons c t => rw [List.takeWhile_cons_of_pos (show dg c = true from hs)]; simp
      split at h
      · cases h
      · cases h; exact ⟨(takeWhile_len dg l).symm, hne⟩
    · split at h
      · cases h
      · rename_i hs
        cases h; exact ⟨sgn_take l, hs⟩

theorem contains_cons (b : UInt8) (l sub : List UInt8) : Lib.contains (b :: l) sub = (sub.isPrefixOf (b :: l) || Lib.contains l sub) := by
  unfold Lib.contains
  have h := Lib.index_ge l sub
  rw [Lib.index]
  by_cases hp : sub.isPrefixOf (b :: l) = true
  · simp [hp]
  · have hp' : sub.isPrefixOf (b :: l) = false := Bool.eq_false_iff.2 hp
    rw [if_neg hp, hp', Bool.false_or]
    by_cases he : (Lib.index l sub == -1) = true
    · rw [if_pos he]
      have : Lib.index l sub = -1 := by simpa using he
      rw [this]
    · rw [if_neg he]
      have : Lib.index l sub ≠ -1 := by simpa using he
      by_cases h0 : 0 ≤ Lib.index l sub
      · rw [decide_eq_true h0, decide_eq_true (by omega)]
      · omega

theorem prefix_word : ∀ (w v rest : List UInt8), (∀ c ∈ w, c ≠ 32) → (∀ c ∈ v, c ≠ 32) → (w ++ [32]).isPrefixOf (v ++ 32 :: rest) = (v == w)
  | [], [], rest, _, _ => by simp
  | [], c :: v, rest, _, hv => by
    have hc : c ≠ 32 := hv c (by simp)
    have : ((32 : UInt8) == c) = false := by simpa using fun e => hc e.symm
    simp [List.isPrefixOf, this]
  | c :: w, [], rest, hw, _ => by
    have hc : c ≠ 32 := hw c (by simp)
    have : (c == (32 : UInt8)) = false := by simpa using hc
    simp [List.isPrefixOf, this]
  | c :: w, d :: v, rest, hw, hv => by
    have ih := prefix_word w v rest (fun x hx => hw x (by simp [hx])) (fun x hx => hv x (by simp [hx]))
    show ((c == d) && (w ++ [32]).isPrefixOf (v ++ 32 :: rest)) = (d == c && v == w)
    rw [ih, Bool.beq_comm (a := c)]

theorem contains_skip (sub : List UInt8) : ∀ (v l : List UInt8), (∀ c ∈ v, c ≠ 32) → Lib.contains (v ++ l) (32 :: sub) = Lib.contains l (32 :: sub)
  | [], _, _ => rfl
  | c :: v, l, hv => by
    have hc : c ≠ 32 := hv c (by simp)
    have h1 : ((32 : UInt8) == c) = false := by simpa using fun e => hc e.symm
    show Lib.contains (c :: (v ++ l)) (32 :: sub) = _
    rw [contains_cons, contains_skip sub v l (fun x hx => hv x (by simp [hx]))]
    simp [List.isPrefixOf, h1]

theorem contains_word (w v rest : List UInt8) (hw : ∀ c ∈ w, c ≠ 32) (hv : ∀ c ∈ v, c ≠ 32) :
    Lib.contains (32 :: (v ++ 32 :: rest)) (32 :: (w ++ [32])) = (v == w || Lib.contains (32 :: rest) (32 :: (w ++ [32]))) := by
  rw [contains_cons, contains_skip _ v _ hv]
  congr 1
  show ((32 : UInt8) == 32 && (w ++ [32]).isPrefixOf (v ++ 32 :: rest)) = (v == w)
  rw [prefix_word w v rest hw hv]
  rfl

def spaced : List (List UInt8) → List UInt8
  | [] => [32]
  | v :: r => 32 :: (v ++ spaced r)

theorem spaced_head (r : List (List UInt8)) : ∃ t, spaced r = 32 :: t := by
  cases r <;> exact ⟨_, rfl⟩

theorem contains_spaced (w : List UInt8) (hw : ∀ c ∈ w, c ≠ 32) (hne : w ≠ []) : ∀ (ws : List (List UInt8)), (∀ v ∈ ws, ∀ c ∈ v, c ≠ 32) → Lib.contains (spaced ws) (32 :: (w ++ [32])) = ws.contains w
  | [], _ => by
    show Lib.contains [32] _ = _
    rw [contains_cons]
    cases w with
    | nil => exact absurd rfl hne
    | cons a r => cases r <;> rfl
  | v :: r, h => by
    obtain ⟨t, ht⟩ := spaced_head r
    have ih := contains_spaced w hw hne r (fun x hx => h x (by simp [hx]))
    show Lib.contains (32 :: (v ++ spaced r)) _ = _
    rw [ht, contains_word w v t hw (h v (by simp)), ← ht, ih, List.contains_cons]
    congr 1
    exact Bool.beq_comm

theorem nm_ne {c : UInt8} (h : nm c = true) : c ≠ 32 := by
  rintro rfl
  exact absurd h (by decide)

def wordText : List UInt8 := [32, 97, 110, 100, 32, 98, 111, 111, 108, 32, 99, 97, 115, 101, 32, 101, 108, 115, 101, 32, 102, 97, 108, 115, 101, 32, 102, 108, 105, 112, 32, 102, 117, 110, 32, 105, 102, 32, 105, 110, 32, 105, 110, 112, 117, 116, 32, 105, 110, 116, 32, 108, 101, 116, 32, 110, 111, 116, 32, 111, 98, 115, 101, 114, 118, 101, 32, 111, 102, 32, 111, 114, 32, 112, 105, 99, 107, 32, 114, 97, 110, 103, 101, 32, 115, 99, 111, 114, 101, 32, 116, 104, 101, 110, 32, 116, 114, 117, 101, 32]
theorem wordText_eq : wordText = spaced wordList := by decide

theorem contains_isWord (w : List UInt8) (hw : ∀ c ∈ w, nm c = true) (hne : w ≠ []) : Lib.contains wordText (32 :: (w ++ [32])) = isWord w := by
  rw [wordText_eq]
  exact contains_spaced w (fun c hc => nm_ne (hw c hc)) hne wordList (by decide)

theorem val_snoc (w : List UInt8) (c : UInt8) : val (w ++ [c]) = val w * 10 + (c.toNat - 48) := by
  unfold val
  rw [List.foldl_append]
  rfl

theorem has_yes {a x : List UInt8} (r : List (List UInt8)) (h : x = a) : has (a :: r) x = true := by unfold has; subst h; simp
theorem has_no {a x : List UInt8} (r : List (List UInt8)) (h : x ≠ a) : has (a :: r) x = has r x := by
  unfold has
  rw [List.contains_cons, beq_eq_false_iff_ne.2 h, Bool.false_or]
theorem hasB_cons (b : UInt8) (l : List UInt8) (c : UInt8) : hasB (b :: l) c = (c == b || hasB l c) := List.contains_cons
theorem indexByte_has : ∀ (l : List UInt8) (c : UInt8), Lib.indexByte l c ≥ 0 ↔ hasB l c = true
  | [], c => by simp [Lib.indexByte, hasB]
  | b :: l, c => by
    have ih := indexByte_has l c
    have hge := Lib.indexByte_ge l c
    rw [Lib.indexByte, hasB_cons]
    by_cases h : (b == c) = true
    · have h' : (c == b) = true := by rw [Bool.beq_comm]; exact h
      rw [if_pos h, h']; simp
    · have h' : (c == b) = false := by rw [Bool.beq_comm]; simpa using h
      rw [if_neg h, h', Bool.false_or, ← ih]
      by_cases h2 : (Lib.indexByte l c == -1) = true
      · rw [if_pos h2]
        have : Lib.indexByte l c = -1 := by simpa using h2
        omega
      · rw [if_neg h2]
        have : Lib.indexByte l c ≠ -1 := by simpa using h2
        omega
end Go.Proofs.YtbmcafehpgimfaaGreat.Lx
namespace Go.Proofs.YtbmcafehpgimfaaGreat.Px
set_option linter.unusedVariables false
set_option linter.unusedSimpArgs false
open Lx (Tok)

inductive T where
  | mk (k : Int) (l : List T)
deriving Inhabited
inductive E where
  | mk (k n : Int) (name : List UInt8) (names : List (List UInt8)) (odds : List Int) (kids : List E) (line col : Int)
deriving Inhabited
structure Fld where
  name : List UInt8
  typ : T
  line : Int
  col : Int
deriving Inhabited
structure Fnc where
  name : List UInt8
  params : List Fld
  res : T
  body : E
  line : Int
  col : Int
deriving Inhabited
structure Pg where
  inputs : List Fld
  funs : List Fnc
  query : E
deriving Inhabited
def T.k : T → Int | .mk k _ => k
def T.l : T → List T | .mk _ l => l
def E.k : E → Int | .mk k _ _ _ _ _ _ _ => k
def E.n : E → Int | .mk _ n _ _ _ _ _ _ => n
def E.name : E → List UInt8 | .mk _ _ s _ _ _ _ _ => s
def E.names : E → List (List UInt8) | .mk _ _ _ l _ _ _ _ => l
def E.odds : E → List Int | .mk _ _ _ _ o _ _ _ => o
def E.kids : E → List E | .mk _ _ _ _ _ l _ _ => l
def E.line : E → Int | .mk _ _ _ _ _ _ a _ => a
def E.col : E → Int | .mk _ _ _ _ _ _ _ b => b

abbrev wBool : List UInt8 := [98, 111, 111, 108]
abbrev wInt : List UInt8 := [105, 110, 116]
abbrev wLet : List UInt8 := [108, 101, 116]
abbrev wIf : List UInt8 := [105, 102]
abbrev wCase : List UInt8 := [99, 97, 115, 101]
abbrev wObserve : List UInt8 := [111, 98, 115, 101, 114, 118, 101]
abbrev wScore : List UInt8 := [115, 99, 111, 114, 101]
abbrev wIn : List UInt8 := [105, 110]
abbrev wThen : List UInt8 := [116, 104, 101, 110]
abbrev wElse : List UInt8 := [101, 108, 115, 101]
abbrev wOf : List UInt8 := [111, 102]
abbrev wOr : List UInt8 := [111, 114]
abbrev wAnd : List UInt8 := [97, 110, 100]
abbrev wNot : List UInt8 := [110, 111, 116]
abbrev wNeg : List UInt8 := [110, 101, 103]
abbrev wTrue : List UInt8 := [116, 114, 117, 101]
abbrev wFalse : List UInt8 := [102, 97, 108, 115, 101]
abbrev wPick : List UInt8 := [112, 105, 99, 107]
abbrev wFlip : List UInt8 := [102, 108, 105, 112]
abbrev wRange : List UInt8 := [114, 97, 110, 103, 101]
abbrev wInput : List UInt8 := [105, 110, 112, 117, 116]
abbrev wFun : List UInt8 := [102, 117, 110]
abbrev wLp : List UInt8 := [40]
abbrev wRp : List UInt8 := [41]
abbrev wLb : List UInt8 := [91]
abbrev wRb : List UInt8 := [93]
abbrev wLc : List UInt8 := [123]
abbrev wRc : List UInt8 := [125]
abbrev wCm : List UInt8 := [44]
abbrev wSc : List UInt8 := [59]
abbrev wCl : List UInt8 := [58]
abbrev wBar : List UInt8 := [124]
abbrev wAr : List UInt8 := [61, 62]
abbrev wEq : List UInt8 := [61]
abbrev wEqEq : List UInt8 := [61, 61]
abbrev wLt : List UInt8 := [60]
abbrev wLe : List UInt8 := [60, 61]
abbrev wCc : List UInt8 := [58, 58]
abbrev wPl : List UInt8 := [43]
abbrev wMi : List UInt8 := [45]
abbrev wTi : List UInt8 := [42]
abbrev wSl : List UInt8 := [47]
abbrev wPc : List UInt8 := [37]

inductive NT where
  | typ | typs | field | fields | fun_ | expr | names | level (n : Nat) | loop (n : Nat) (left : E) | unary | atom | list (e : List UInt8) | rest (e : List UInt8) | pick | share | bound | inputs | funs | program
abbrev Ret : NT → Type
  | .typ => T
  | .typs => List T
  | .field => Fld
  | .fields => List Fld
  | .fun_ => Fnc
  | .names => List (List UInt8)
  | .list _ => List E
  | .rest _ => List E
  | .pick => List Int × List E
  | .share => List Int
  | .bound => Int
  | .inputs => List Fld
  | .funs => List Fnc
  | .program => Pg
  | .expr => E
  | .level _ => E
  | .loop _ _ => E
  | .unary => E
  | .atom => E
inductive Pm (α : Type) where
  | ret (a : α)
  | fail
  | tst (s : List UInt8) (y n : Pm α)
  | knd (k : Int) (y n : Pm α)
  | look (f : Tok → Pm α)
  | next (m : Pm α)
  | call (q : NT) (f : Ret q → Pm α)
namespace Pm
variable {α : Type}
abbrev take (s : List UInt8) (y n : Pm α) : Pm α := .tst s (.next y) n
abbrev want (s : List UInt8) (m : Pm α) : Pm α := .tst s (.next m) .fail
abbrev kind (k : Int) (f : Tok → Pm α) : Pm α := .knd k (.look fun t => .next (f t)) .fail
abbrev any (l : List (List UInt8)) (y n : Pm α) : Pm α := l.foldr (fun s acc => .tst s y acc) n
end Pm
open Pm
def opsOf : Nat → List (List UInt8)
  | 0 => [wOr]
  | 1 => [wAnd]
  | 2 => [wEqEq, wLt, wLe]
  | 3 => [wCc]
  | 4 => [wPl, wMi]
  | 5 => [wTi, wSl, wPc]
  | _ => []
def lets (t : Tok) (ns : List (List UInt8)) : Pm E :=
  want wEq (.call .expr fun x => want wIn (.call .expr fun y => .ret (.mk 8 0 [] ns [] [x, y] t.line t.col)))
def funRest (t : Tok) (ps : List Fld) : Pm Fnc :=
  want wCl (.call .typ fun ty => want wEq (.call .expr fun b => want wSc (.ret ⟨t.text, ps, ty, b, t.line, t.col⟩)))
abbrev caseK2 (t : Tok) (x : E) : Pm E :=
  .call .expr fun y => want wBar (kind 1 fun a => want wCc (kind 1 fun b => want wAr (.call .expr fun z => .ret (E.mk 10 0 [] [a.text, b.text] [] [x, y, z] t.line t.col))))
abbrev caseK (t : Tok) : Pm E := .call .expr fun x => want wOf (want wLb (want wRb (want wAr (caseK2 t x))))
def body : (q : NT) → Pm (Ret q)
  | .typ => take wBool (.ret (T.mk 1 [])) (take wInt (.ret (T.mk 2 [])) (take wLb (.call .typ fun t => want wRb (.ret (T.mk 4 [t])))
      (want wLp (.call .typ fun a => want wCm (.call .typ fun b => .call .typs fun r => .ret (T.mk 3 (a :: b :: r)))))))
  | .typs => take wCm (.call .typ fun a => .call .typs fun r => .ret (a :: r)) (want wRp (.ret []))
  | .field => kind 1 fun t => want wCl (.call .typ fun ty => .ret ⟨t.text, ty, t.line, t.col⟩)
  | .fields => take wCm (.call .field fun a => .call .fields fun r => .ret (a :: r)) (want wRp (.ret []))
  | .fun_ => kind 1 fun t => want wLp (take wRp (funRest t []) (.call .field fun a => .call .fields fun r => funRest t (a :: r)))
  | .names => take wCm (kind 1 fun a => .call .names fun r => .ret (a.text :: r)) (want wRp (.ret []))
  | .expr => .look fun t =>
      take wLet (take wLp (kind 1 fun a => want wCm (kind 1 fun b => .call .names fun r => lets t (a.text :: b.text :: r))) (kind 1 fun a => lets t [a.text]))
      (take wIf (.call .expr fun x => want wThen (.call .expr fun y => want wElse (.call .expr fun z => .ret (E.mk 9 0 [] [] [] [x, y, z] t.line t.col))))
      (take wCase (caseK t)
      (take wObserve (.call .expr fun x => want wIn (.call .expr fun y => .ret (E.mk 11 0 [] [] [] [x, y] t.line t.col)))
      (take wScore (.call .share fun o => want wIn (.call .expr fun x => .ret (E.mk 12 0 [] [] o [x] t.line t.col)))
      (.call (.level 0) .ret)))))
  | .level n => match n with
    | 0 => .call (.level 1) fun l => .call (.loop 0 l) .ret
    | 1 => .call (.level 2) fun l => .call (.loop 1 l) .ret
    | 2 => .call (.level 3) fun l => .call (.loop 2 l) .ret
    | 3 => .call (.level 4) fun l => .call (.loop 3 l) .ret
    | 4 => .call (.level 5) fun l => .call (.loop 4 l) .ret
    | 5 => .call (.level 6) fun l => .call (.loop 5 l) .ret
    | _ => .call .unary .ret
  | .loop n left => any (opsOf n) (.look fun t => .next (.call (.level (if n = 3 then 3 else n + 1)) fun r =>
      if n = 2 ∨ n = 3 then .ret (E.mk 7 0 t.text [] [] [left, r] t.line t.col) else .call (.loop n (E.mk 7 0 t.text [] [] [left, r] t.line t.col)) .ret)) (.ret left)
  | .unary => .look fun t => take wNot (.call .unary fun x => .ret (E.mk 7 0 wNot [] [] [x] t.line t.col)) (take wMi (.call .unary fun x => .ret (E.mk 7 0 wNeg [] [] [x] t.line t.col)) (.call .atom .ret))
  | .atom => .look fun t =>
      .knd 3 (.next (.ret (E.mk 1 t.n [] [] [] [] t.line t.col)))
      (.knd 1 (.next (take wLp (.call (.list wRp) fun ks => .ret (E.mk 4 0 t.text [] [] ks t.line t.col)) (.ret (E.mk 3 0 t.text [] [] [] t.line t.col))))
      (take wTrue (.ret (E.mk 2 1 [] [] [] [] t.line t.col))
      (take wFalse (.ret (E.mk 2 0 [] [] [] [] t.line t.col))
      (take wLp (.call .expr fun a => take wRp (.ret a) (want wCm (.call .expr fun b => .call (.rest wRp) fun r => .ret (E.mk 5 0 [] [] [] (a :: b :: r) t.line t.col))))
      (take wLb (.call (.list wRb) fun ks => .ret (E.mk 6 0 [] [] [] ks t.line t.col))
      (take wPick (want wLc (.call .pick fun p => .ret (E.mk 13 0 [] [] p.1 p.2 t.line t.col)))
      (take wFlip (want wLp (.call .share fun o => want wRp (.ret (E.mk 14 0 [] [] o [] t.line t.col))))
      (take wRange (want wLp (.call .bound fun a => want wCm (.call .bound fun b => want wRp (.ret (E.mk 15 0 [] [] [a, b] [] t.line t.col)))))
      .fail))))))))
  | .list e => take e (.ret []) (.call .expr fun a => .call (.rest e) fun r => .ret (a :: r))
  | .rest e => take wCm (.call .expr fun a => .call (.rest e) fun r => .ret (a :: r)) (want e (.ret []))
  | .pick => kind 3 fun t => want wCl (.call .expr fun x => take wCm (.call .pick fun p => .ret (t.n :: p.1, x :: p.2)) (want wRc (.ret ([t.n], [x]))))
  | .share => kind 3 fun p => want wSl (kind 3 fun q => .ret [p.n, q.n])
  | .bound => take wMi (kind 3 fun t => .ret (-t.n)) (kind 3 fun t => .ret t.n)
  | .inputs => take wInput (.call .field fun a => want wSc (.call .inputs fun r => .ret (a :: r))) (.ret [])
  | .funs => take wFun (.call .fun_ fun a => .call .funs fun r => .ret (a :: r)) (.ret [])
  | .program => .call .inputs fun a => .call .funs fun b => .call .expr fun q => .ret ⟨a, b, q⟩

inductive Rs (α : Type) where
  | ok (a : α) (i : Nat)
  | no (i : Nat)
  | out
def tk (l : List Tok) (i : Nat) : Tok := l.getD i ⟨0, [], 0, 0, 0⟩
def isT (s : List UInt8) (t : Tok) : Bool := (t.kind == 4 || t.kind == 2) && t.text == s
def run {α : Type} (P : (q : NT) → Nat → Rs (Ret q)) (l : List Tok) : Pm α → Nat → Rs α
  | .ret a, i => .ok a i
  | .fail, i => .no i
  | .tst s y n, i => bif isT s (tk l i) then run P l y i else run P l n i
  | .knd k y n, i => bif (tk l i).kind == k then run P l y i else run P l n i
  | .look f, i => run P l (f (tk l i)) i
  | .next m, i => run P l m (i + 1)
  | .call q f, i => match P q i with
    | .ok a j => run P l (f a) j
    | .no j => .no j
    | .out => .out
def parse (l : List Tok) : Nat → (q : NT) → Nat → Rs (Ret q)
  | 0 => fun _ _ => .out
  | n + 1 => fun q i => run (parse l n) l (body q) i

inductive Adm (rank : NT → Nat) (r : Nat) {α : Type} : Bool → Bool → Pm α → Prop
  | ret (t c : Bool) (a : α) : Adm rank r t c (.ret a)
  | fail (t c : Bool) : Adm rank r t c .fail
  | tst (t c : Bool) (s : List UInt8) (y n : Pm α) : Adm rank r true c y → Adm rank r t c n → Adm rank r t c (.tst s y n)
  | knd (t c : Bool) (k : Int) (y n : Pm α) : k ≠ 5 → k ≠ 0 → Adm rank r true c y → Adm rank r t c n → Adm rank r t c (.knd k y n)
  | look (t c : Bool) (f : Tok → Pm α) : (∀ x, Adm rank r t c (f x)) → Adm rank r t c (.look f)
  | next (c : Bool) (m : Pm α) : Adm rank r false true m → Adm rank r true c (.next m)
  | call (t c : Bool) (q : NT) (f : Ret q → Pm α) : (c = true ∨ rank q < r) → (∀ a, Adm rank r false c (f a)) → Adm rank r t c (.call q f)
def rank : NT → Nat
  | .program => 12
  | .list _ => 11
  | .expr => 10
  | .level n => match n with
    | 0 => 9
    | 1 => 8
    | 2 => 7
    | 3 => 6
    | 4 => 5
    | 5 => 4
    | _ => 3
  | .unary => 2
  | .atom => 1
  | _ => 0
theorem adm_any {α : Type} {r : Nat} {t c : Bool} {y n : Pm α} (hy : Adm rank r true c y) (hn : Adm rank r t c n) : ∀ l : List (List UInt8), Adm rank r t c (any l y n)
  | [] => hn
  | s :: l => .tst t c s y _ hy (adm_any hy hn l)
theorem adm_lets {r : Nat} (t : Tok) (ns : List (List UInt8)) : Adm rank r false true (lets t ns) := by
  unfold lets
  repeat' first | (exact .inl rfl) | (decide) | (intro _) | (constructor)
theorem adm_fun {r : Nat} (t : Tok) (ps : List Fld) : Adm rank r false true (funRest t ps) := by
  unfold funRest
  repeat' first | (exact .inl rfl) | (decide) | (intro _) | (constructor)
theorem adm : ∀ q : NT, Adm rank (rank q) false false (body q) := by
  intro q
  cases q with
  | level n =>
    match n with
    | 0 | 1 | 2 | 3 | 4 | 5 =>
      refine .call _ _ _ _ (.inr (by simp [rank])) fun l => .call _ _ _ _ (.inr (by simp [rank])) fun r => .ret _ _ _
    | n + 6 => exact .call _ _ _ _ (.inr (show (2 : Nat) < 3 by decide)) fun l => .ret _ _ _
  | loop n left =>
    refine adm_any ?_ (.ret _ _ _) _
    refine .look _ _ _ fun t => .next _ _ (.call _ _ _ _ (.inl rfl) fun r => ?_)
    by_cases h : n = 2 ∨ n = 3
    · rw [if_pos h]; exact .ret _ _ _
    · rw [if_neg h]; exact .call _ _ _ _ (.inl rfl) fun _ => .ret _ _ _
  | program =>
    exact .call _ _ _ _ (.inr (by decide)) fun _ => .call _ _ _ _ (.inr (by decide)) fun _ => .call _ _ _ _ (.inr (by decide)) fun _ => .ret _ _ _
  | _ =>
    unfold body
    repeat' first | (exact adm_lets _ _) | (exact adm_fun _ _) | (exact .inl rfl) | (exact .inr (by simp [rank])) | (decide) | (intro _) | (constructor)

structure GoodL (l : List Tok) : Prop where
  last : ∀ i, i < l.length → ((tk l i).kind = 5 ↔ i + 1 = l.length)
def Fine {α : Type} (l : List Tok) (i : Nat) : Rs α → Prop
  | .ok _ j => i ≤ j ∧ j < l.length
  | .no j => i ≤ j ∧ j < l.length
  | .out => True
theorem isT_kind {s : List UInt8} {t : Tok} (h : isT s t = true) : t.kind ≠ 5 := by
  unfold isT at h
  rw [Bool.and_eq_true, Bool.or_eq_true, beq_iff_eq, beq_iff_eq] at h
  omega
theorem Fine.le {α : Type} {l : List Tok} {i j : Nat} {r : Rs α} (hij : i ≤ j) (h : Fine l j r) : Fine l i r := by
  cases r with
  | ok a m => exact ⟨Nat.le_trans hij h.1, h.2⟩
  | no m => exact ⟨Nat.le_trans hij h.1, h.2⟩
  | out => trivial
theorem run_fine {α : Type} {P : (q : NT) → Nat → Rs (Ret q)} {l : List Tok} (hl : GoodL l) (hP : ∀ q i, i < l.length → Fine l i (P q i)) {r : Nat} {t c : Bool} {m : Pm α} (hm : Adm rank r t c m) :
    ∀ i, i < l.length → (t = true → i + 1 < l.length) → Fine l i (run P l m i) := by
  induction hm with
  | ret t c a => exact fun i hi _ => ⟨Nat.le_refl _, hi⟩
  | fail t c => exact fun i hi _ => ⟨Nat.le_refl _, hi⟩
  | tst t c s y n _ _ hy hn =>
    intro i hi ht
    unfold run
    cases h : isT s (tk l i) with
    | true =>
      have := isT_kind h
      have h2 := hl.last i hi
      exact hy i hi (fun _ => by have : ¬ (i + 1 = l.length) := fun e => this (h2.2 e); omega)
    | false => exact hn i hi ht
  | knd t c k y n hk hk0 _ _ hy hn =>
    intro i hi ht
    unfold run
    cases h : (tk l i).kind == k with
    | true =>
      have h2 := hl.last i hi
      rw [beq_iff_eq] at h
      exact hy i hi (fun _ => by have : ¬ (i + 1 = l.length) := fun e => hk (h ▸ h2.2 e); omega)
    | false => exact hn i hi ht
  | look t c f _ ih => exact fun i hi ht => ih (tk l i) i hi ht
  | next c m _ ih =>
    intro i hi ht
    exact (ih (i + 1) (ht rfl) (fun h => by cases h)).le (Nat.le_succ i)
  | call t c q f _ _ ih =>
    intro i hi ht
    unfold run
    have := hP q i hi
    cases h : P q i with
    | ok a j =>
      rw [h] at this
      exact (ih a j this.2 (fun h => by cases h)).le this.1
    | no j => rw [h] at this; exact this
    | out => trivial
theorem parse_fine {l : List Tok} (hl : GoodL l) : ∀ (n : Nat) (q : NT) (i : Nat), i < l.length → Fine l i (parse l n q i)
  | 0, q, i, hi => trivial
  | n + 1, q, i, hi => run_fine hl (parse_fine hl n) (adm q) i hi (fun h => by cases h)
theorem run_ends {α : Type} {P : (q : NT) → Nat → Rs (Ret q)} {l : List Tok} (hl : GoodL l) (hF : ∀ q i, i < l.length → Fine l i (P q i)) {r N : Nat} {t c : Bool} {m : Pm α} (hm : Adm rank r t c m) (hr : r ≤ 12)
    (hP : ∀ q i, i < l.length → (l.length - i) * 16 + rank q < N → P q i ≠ .out) :
    ∀ i, i < l.length → (t = true → i + 1 < l.length) → (c = false → (l.length - i) * 16 + r ≤ N) → (c = true → (l.length - i) * 16 + 16 ≤ N) → run P l m i ≠ .out := by
  have rk : ∀ q, rank q ≤ 12 := fun q => by
    cases q with
    | level n => match n with
      | 0 | 1 | 2 | 3 | 4 | 5 => decide
      | n + 6 => exact (by decide : (3 : Nat) ≤ 12)
    | _ => simp [rank]
  induction hm with
  | ret t c a => exact fun i hi _ _ _ h => by cases h
  | fail t c => exact fun i hi _ _ _ h => by cases h
  | tst t c s y n _ _ hy hn =>
    intro i hi ht h1 h2
    unfold run
    cases h : isT s (tk l i) with
    | true =>
      have := isT_kind h
      have h3 := hl.last i hi
      exact hy i hi (fun _ => by have : ¬ (i + 1 = l.length) := fun e => this (h3.2 e); omega) h1 h2
    | false => exact hn i hi ht h1 h2
  | knd t c k y n hk hk0 _ _ hy hn =>
    intro i hi ht h1 h2
    unfold run
    cases h : (tk l i).kind == k with
    | true =>
      have h3 := hl.last i hi
      rw [beq_iff_eq] at h
      exact hy i hi (fun _ => by have : ¬ (i + 1 = l.length) := fun e => hk (h ▸ h3.2 e); omega) h1 h2
    | false => exact hn i hi ht h1 h2
  | look t c f _ ih => exact fun i hi ht h1 h2 => ih (tk l i) i hi ht h1 h2
  | next c m _ ih =>
    intro i hi ht h1 h2
    have := ht rfl
    refine ih (i + 1) this (fun h => by cases h) (fun h => by cases h) (fun _ => ?_)
    cases c with
    | false => have := h1 rfl; omega
    | true => have := h2 rfl; omega
  | call t c q f hq _ ih =>
    intro i hi ht h1 h2
    unfold run
    have hne : P q i ≠ .out := hP q i hi (by
      have := rk q
      cases c with
      | true => have := h2 rfl; omega
      | false =>
        have := h1 rfl
        rcases hq with hq | hq
        · cases hq
        · omega)
    have hf := hF q i hi
    cases h : P q i with
    | ok a j =>
      rw [h] at hf
      obtain ⟨h3, h4⟩ := hf
      exact ih a j h4 (fun h => by cases h) (fun h => by have := h1 h; omega) (fun h => by have := h2 h; omega)
    | no j => exact fun h => by cases h
    | out => exact absurd h hne
theorem parse_ends {l : List Tok} (hl : GoodL l) : ∀ (N : Nat) (q : NT) (i : Nat), i < l.length → (l.length - i) * 16 + rank q < N → parse l N q i ≠ .out
  | 0, q, i, _, h => by omega
  | N + 1, q, i, hi, h => by
    have rk : rank q ≤ 12 := by
      cases q with
      | level n => match n with
        | 0 | 1 | 2 | 3 | 4 | 5 => decide
        | n + 6 => exact (by decide : (3 : Nat) ≤ 12)
      | _ => simp [rank]
    exact run_ends hl (parse_fine hl N) (adm q) rk (parse_ends hl N) i hi (fun h => by cases h) (fun _ => by omega) (fun h => by cases h)
end Go.Proofs.YtbmcafehpgimfaaGreat.Px
namespace Go.Proofs.YtbmcafehpgimfaaGreat.Px
set_option linter.unusedVariables false
set_option linter.unusedSimpArgs false
open Lx (Tok)
open Pm

def thenR {α β : Type} (r : Rs β) (g : β → Nat → Rs α) : Rs α :=
  match r with
  | .ok a j => g a j
  | .no j => .no j
  | .out => .out
def Pm.bind {α β : Type} : Pm α → (α → Pm β) → Pm β
  | .ret a, f => f a
  | .fail, f => .fail
  | .tst s y n, f => .tst s (y.bind f) (n.bind f)
  | .knd k y n, f => .knd k (y.bind f) (n.bind f)
  | .look g, f => .look fun t => (g t).bind f
  | .next m, f => .next (m.bind f)
  | .call q g, f => .call q fun a => (g a).bind f
section
variable {α β : Type} {P P' : (q : NT) → Nat → Rs (Ret q)} {l : List Tok}
theorem run_call (q : NT) (f : Ret q → Pm α) (i : Nat) : run P l (.call q f) i = thenR (P q i) fun a j => run P l (f a) j := by
  rw [run]
  unfold thenR
  cases P q i <;> rfl
theorem run_bind (f : α → Pm β) : ∀ (m : Pm α) (i : Nat), run P l (m.bind f) i = thenR (run P l m i) fun a j => run P l (f a) j
  | .ret a, i => rfl
  | .fail, i => rfl
  | .tst s y n, i => by
    rw [Pm.bind, run, run]
    cases isT s (tk l i)
    · exact run_bind f n i
    · exact run_bind f y i
  | .knd k y n, i => by
    rw [Pm.bind, run, run]
    cases (tk l i).kind == k
    · exact run_bind f n i
    · exact run_bind f y i
  | .look g, i => by rw [Pm.bind, run, run]; exact run_bind f (g (tk l i)) i
  | .next m, i => by rw [Pm.bind, run, run]; exact run_bind f m (i + 1)
  | .call q g, i => by
    rw [Pm.bind, run_call, run_call]
    cases P q i with
    | ok a j => exact run_bind f (g a) j
    | no j => rfl
    | out => rfl
theorem run_mono (h : ∀ q i, P q i ≠ .out → P' q i = P q i) : ∀ (m : Pm α) (i : Nat), run P l m i ≠ .out → run P' l m i = run P l m i
  | .ret a, i, _ => rfl
  | .fail, i, _ => rfl
  | .tst s y n, i, hr => by
    rw [run] at hr ⊢
    rw [run]
    cases hq : isT s (tk l i)
    · rw [hq] at hr; exact run_mono h n i hr
    · rw [hq] at hr; exact run_mono h y i hr
  | .knd k y n, i, hr => by
    rw [run] at hr ⊢
    rw [run]
    cases hq : (tk l i).kind == k
    · rw [hq] at hr; exact run_mono h n i hr
    · rw [hq] at hr; exact run_mono h y i hr
  | .look g, i, hr => by rw [run] at hr ⊢; rw [run]; exact run_mono h (g (tk l i)) i hr
  | .next m, i, hr => by rw [run] at hr ⊢; rw [run]; exact run_mono h m (i + 1) hr
  | .call q g, i, hr => by
    rw [run_call] at hr ⊢
    rw [run_call]
    have hne : P q i ≠ .out := fun e => by rw [e] at hr; exact hr rfl
    rw [h q i hne]
    cases hq : P q i with
    | ok a j => rw [hq] at hr; exact run_mono h (g a) j hr
    | no j => rfl
    | out => rfl
end
theorem parse_mono (l : List Tok) : ∀ (n : Nat) (q : NT) (i : Nat), parse l n q i ≠ .out → parse l (n + 1) q i = parse l n q i
  | 0, q, i, h => absurd rfl h
  | n + 1, q, i, h => run_mono (parse_mono l n) (body q) i h
def pw (l : List Tok) : (q : NT) → Nat → Rs (Ret q) := parse l (l.length * 16 + 13)
theorem rank_le (q : NT) : rank q ≤ 12 := by
  cases q with
  | level n => match n with
    | 0 | 1 | 2 | 3 | 4 | 5 => decide
    | n + 6 => exact (by decide : (3 : Nat) ≤ 12)
  | _ => simp [rank]
section
variable {l : List Tok}
theorem pw_ends (hl : GoodL l) (q : NT) (i : Nat) (hi : i < l.length) : pw l q i ≠ .out :=
  parse_ends hl _ q i hi (by have := rank_le q; have : (l.length - i) * 16 ≤ l.length * 16 := Nat.mul_le_mul_right _ (Nat.sub_le _ _); omega)
theorem pw_fine (hl : GoodL l) (q : NT) (i : Nat) (hi : i < l.length) : Fine l i (pw l q i) := parse_fine hl _ q i hi
theorem pw_eq (hl : GoodL l) (q : NT) (i : Nat) (hi : i < l.length) : pw l q i = run (pw l) l (body q) i := (parse_mono l _ q i (pw_ends hl q i hi)).symm
theorem run_open {α : Type} (hl : GoodL l) (q : NT) (f : Ret q → Pm α) (i : Nat) (hi : i < l.length) : run (pw l) l (.call q f) i = run (pw l) l ((body q).bind f) i := by
  rw [run_call, run_bind, ← pw_eq hl q i hi]
theorem nx (hl : GoodL l) {i : Nat} {s : List UInt8} (hi : i < l.length) (h : isT s (tk l i) = true) : i + 1 < l.length := by
  have h1 := isT_kind h
  have h2 := hl.last i hi
  have : ¬ (i + 1 = l.length) := fun e => h1 (h2.2 e)
  omega
theorem nxk (hl : GoodL l) {i : Nat} {k : Int} (hi : i < l.length) (h : (tk l i).kind = k) (hk : k ≠ 5) : i + 1 < l.length := by
  have h2 := hl.last i hi
  have : ¬ (i + 1 = l.length) := fun e => hk (h ▸ h2.2 e)
  omega
theorem pw_ok (hl : GoodL l) {q : NT} {i : Nat} (hi : i < l.length) {a : Ret q} {j : Nat} (h : pw l q i = .ok a j) : i ≤ j ∧ j < l.length := by
  have := pw_fine hl q i hi
  rw [h] at this
  exact this
end
inductive Eat {α : Type} : Bool → Pm α → Prop
  | ret (a : α) : Eat true (.ret a)
  | fail (c : Bool) : Eat c .fail
  | tst (c : Bool) (s : List UInt8) (y n : Pm α) : Eat c y → Eat c n → Eat c (.tst s y n)
  | knd (c : Bool) (k : Int) (y n : Pm α) : Eat c y → Eat c n → Eat c (.knd k y n)
  | look (c : Bool) (f : Tok → Pm α) : (∀ x, Eat c (f x)) → Eat c (.look f)
  | next (c : Bool) (m : Pm α) : Eat true m → Eat c (.next m)
  | call (c : Bool) (q : NT) (f : Ret q → Pm α) : (∀ a, Eat c (f a)) → Eat c (.call q f)
  | eat (c : Bool) (q : NT) (f : Ret q → Pm α) : (match q with | .expr | .level _ | .unary | .atom => True | _ => False) → (∀ a, Eat true (f a)) → Eat c (.call q f)
def eats : NT → Prop
  | .expr | .level _ | .unary | .atom => True
  | _ => False
theorem run_le {α : Type} {P : (q : NT) → Nat → Rs (Ret q)} {l : List Tok} (hP : ∀ q i a j, P q i = .ok a j → i ≤ j) : ∀ (m : Pm α) (i : Nat) (a : α) (j : Nat), run P l m i = .ok a j → i ≤ j
  | .ret _, i, a, j, h => by rw [run] at h; cases h; exact Nat.le_refl _
  | .fail, i, a, j, h => by rw [run] at h; cases h
  | .tst s y n, i, a, j, h => by
    rw [run] at h
    cases hq : isT s (tk l i)
    · rw [hq] at h; exact run_le hP n i a j h
    · rw [hq] at h; exact run_le hP y i a j h
  | .knd k y n, i, a, j, h => by
    rw [run] at h
    cases hq : (tk l i).kind == k
    · rw [hq] at h; exact run_le hP n i a j h
    · rw [hq] at h; exact run_le hP y i a j h
  | .look f, i, a, j, h => by rw [run] at h; exact run_le hP _ i a j h
  | .next m, i, a, j, h => by rw [run] at h; exact Nat.le_of_succ_le (run_le hP m (i + 1) a j h)
  | .call q f, i, a, j, h => by
    rw [run_call] at h
    cases hq : P q i with
    | ok b k => rw [hq] at h; exact Nat.le_trans (hP q i b k hq) (run_le hP _ k a j h)
    | no k => rw [hq] at h; cases h
    | out => rw [hq] at h; cases h
theorem run_eat {α : Type} {P : (q : NT) → Nat → Rs (Ret q)} {l : List Tok} (hP : ∀ q i a j, P q i = .ok a j → i ≤ j) (hS : ∀ q i a j, eats q → P q i = .ok a j → i < j) {c : Bool} {m : Pm α} (hm : Eat c m) :
    ∀ (i : Nat) (a : α) (j : Nat), c = false → run P l m i = .ok a j → i < j := by
  induction hm with
  | ret b => exact fun i a j hc => by cases hc
  | fail c => exact fun i a j hc h => by rw [run] at h; cases h
  | tst c s y n _ _ hy hn =>
    intro i a j hc h
    rw [run] at h
    cases hq : isT s (tk l i)
    · rw [hq] at h; exact hn i a j hc h
    · rw [hq] at h; exact hy i a j hc h
  | knd c k y n _ _ hy hn =>
    intro i a j hc h
    rw [run] at h
    cases hq : (tk l i).kind == k
    · rw [hq] at h; exact hn i a j hc h
    · rw [hq] at h; exact hy i a j hc h
  | look c f _ ih => exact fun i a j hc h => by rw [run] at h; exact ih _ i a j hc h
  | next c m _ _ => exact fun i a j hc h => by rw [run] at h; exact Nat.lt_of_succ_le (run_le hP m (i + 1) a j h)
  | call c q f _ ih =>
    intro i a j hc h
    rw [run_call] at h
    cases hq : P q i with
    | ok b k => rw [hq] at h; exact Nat.lt_of_le_of_lt (hP q i b k hq) (ih b k a j hc h)
    | no k => rw [hq] at h; cases h
    | out => rw [hq] at h; cases h
  | eat c q f hs _ _ =>
    intro i a j hc h
    rw [run_call] at h
    cases hq : P q i with
    | ok b k =>
      rw [hq] at h
      exact Nat.lt_of_lt_of_le (hS q i b k (by cases q <;> exact hs) hq) (run_le hP _ k a j h)
    | no k => rw [hq] at h; cases h
    | out => rw [hq] at h; cases h
theorem parse_le (l : List Tok) : ∀ (n : Nat) (q : NT) (i : Nat) (a : Ret q) (j : Nat), parse l n q i = .ok a j → i ≤ j
  | 0, q, i, a, j, h => by cases h
  | n + 1, q, i, a, j, h => run_le (parse_le l n) _ _ _ _ h
theorem eat_body : ∀ q : NT, eats q → Eat false (body q) := by
  intro q hq
  cases q with
  | expr =>
    unfold body
    unfold lets
    repeat' first | (exact .eat _ _ _ trivial fun _ => .ret _) | (intro _) | (constructor)
  | level n =>
    match n with
    | 0 | 1 | 2 | 3 | 4 | 5 => exact .eat _ _ _ trivial fun _ => .call _ _ _ fun _ => .ret _
    | n + 6 => exact .eat _ _ _ trivial fun _ => .ret _
  | unary =>
    unfold body
    repeat' first | (exact .eat _ _ _ trivial fun _ => .ret _) | (intro _) | (constructor)
  | atom =>
    unfold body
    repeat' first | (intro _) | (constructor)
  | _ => exact hq.elim
theorem parse_eat (l : List Tok) : ∀ (n : Nat) (q : NT) (i : Nat) (a : Ret q) (j : Nat), eats q → parse l n q i = .ok a j → i < j
  | 0, q, i, a, j, _, h => by cases h
  | n + 1, q, i, a, j, hq, h => run_eat (parse_le l n) (parse_eat l n) (eat_body q hq) _ _ _ rfl h
theorem pw_eat {l : List Tok} {q : NT} {i : Nat} {a : Ret q} {j : Nat} (hq : eats q) (h : pw l q i = .ok a j) : i < j := parse_eat l _ q i a j hq h
end Go.Proofs.YtbmcafehpgimfaaGreat.Px
/- What is read is no greater than what was read of the text. -/
namespace Go.Proofs.YtbmcafehpgimfaaGreat.Px
set_option linter.unusedVariables false
open Lx (Tok)
open Pm

mutual
def wE : E → Nat
  | .mk _ _ _ ns os ks _ _ => 1 + ns.length + os.length + wEs ks
def wEs : List E → Nat
  | [] => 0
  | x :: r => wE x + wEs r
end
mutual
def wT : T → Nat
  | .mk _ l => 1 + wTs l
def wTs : List T → Nat
  | [] => 0
  | x :: r => wT x + wTs r
end
def wF (f : Fld) : Nat := wT f.typ
def wFs : List Fld → Nat
  | [] => 0
  | x :: r => wF x + wFs r
def wFn (f : Fnc) : Nat := 1 + wFs f.params + wT f.res + wE f.body
def wFns : List Fnc → Nat
  | [] => 0
  | x :: r => wFn x + wFns r
theorem wE_mk (k n : Int) (s : List UInt8) (ns : List (List UInt8)) (os : List Int) (ks : List E) (a b : Int) : wE (.mk k n s ns os ks a b) = 1 + ns.length + os.length + wEs ks := by rw [wE]
theorem wT_mk (k : Int) (l : List T) : wT (.mk k l) = 1 + wTs l := by rw [wT]
theorem wEs_cons (x : E) (r : List E) : wEs (x :: r) = wE x + wEs r := by rw [wEs]
theorem wEs_nil : wEs [] = 0 := by rw [wEs]
theorem wTs_cons (x : T) (r : List T) : wTs (x :: r) = wT x + wTs r := by rw [wTs]
theorem wTs_nil : wTs [] = 0 := by rw [wTs]
def wQ : (q : NT) → Ret q → Nat
  | .typ, t => wT t
  | .typs, l => wTs l
  | .field, f => wF f
  | .fields, l => wFs l
  | .fun_, f => wFn f
  | .names, l => l.length
  | .list _, l => wEs l
  | .rest _, l => wEs l
  | .pick, p => p.1.length + wEs p.2
  | .share, l => l.length
  | .bound, _ => 1
  | .inputs, l => wFs l
  | .funs, l => wFns l
  | .program, p => wFs p.inputs + wFns p.funs + wE p.query
  | .expr, e => wE e
  | .level _, e => wE e
  | .loop _ _, e => wE e
  | .unary, e => wE e
  | .atom, e => wE e
def wB : NT → Nat
  | .loop _ left => wE left
  | _ => 0
inductive Wt {α : Type} (w : α → Nat) : Nat → Pm α → Prop
  | ret (c : Nat) (a : α) : w a ≤ c → Wt w c (.ret a)
  | fail (c : Nat) : Wt w c .fail
  | tst (c : Nat) (s : List UInt8) (y n : Pm α) : Wt w c y → Wt w c n → Wt w c (.tst s y n)
  | knd (c : Nat) (k : Int) (y n : Pm α) : Wt w c y → Wt w c n → Wt w c (.knd k y n)
  | look (c : Nat) (f : Tok → Pm α) : (∀ x, Wt w c (f x)) → Wt w c (.look f)
  | next (c : Nat) (m : Pm α) : Wt w (c + 1) m → Wt w c (.next m)
  | call (c : Nat) (q : NT) (f : Ret q → Pm α) : (∀ a v, wQ q a ≤ wB q + v → Wt w (c + v) (f a)) → Wt w c (.call q f)
theorem run_wt {α : Type} {w : α → Nat} {P : (q : NT) → Nat → Rs (Ret q)} {l : List Tok} (hP : ∀ q i a j, P q i = .ok a j → i ≤ j ∧ wQ q a + i ≤ wB q + j) {c : Nat} {m : Pm α} (hm : Wt w c m) :
    ∀ (i : Nat) (a : α) (j : Nat), run P l m i = .ok a j → w a + i ≤ c + j := by
  induction hm with
  | ret c b h => exact fun i a j hr => by rw [run] at hr; cases hr; omega
  | fail c => exact fun i a j h => by rw [run] at h; cases h
  | tst c s y n _ _ hy hn =>
    intro i a j h
    rw [run] at h
    cases hq : isT s (tk l i)
    · rw [hq] at h; exact hn i a j h
    · rw [hq] at h; exact hy i a j h
  | knd c k y n _ _ hy hn =>
    intro i a j h
    rw [run] at h
    cases hq : (tk l i).kind == k
    · rw [hq] at h; exact hn i a j h
    · rw [hq] at h; exact hy i a j h
  | look c f _ ih => exact fun i a j h => by rw [run] at h; exact ih _ i a j h
  | next c m _ ih => exact fun i a j h => by rw [run] at h; have := ih (i + 1) a j h; omega
  | call c q f _ ih =>
    intro i a j h
    rw [run_call] at h
    cases hq : P q i with
    | ok b k =>
      rw [hq] at h
      have h1 := hP q i b k hq
      have := ih b (k - i) (by omega) k a j h
      omega
    | no k => rw [hq] at h; cases h
    | out => rw [hq] at h; cases h
theorem wE_pos (e : E) : 1 ≤ wE e := by cases e; rw [wE]; omega
theorem wt_body : ∀ q : NT, Wt (wQ q) (wB q) (body q) := by
  intro q
  cases q with
  | level n =>
    match n with
    | 0 | 1 | 2 | 3 | 4 | 5 =>
      refine .call _ _ _ fun a v h => .call _ _ _ fun b u h2 => .ret _ _ ?_
      simp only [wQ, wB] at *
      omega
    | n + 6 =>
      refine .call _ _ _ fun a v h => .ret _ _ ?_
      simp only [wQ, wB] at *
      omega
  | loop n left =>
    have hany : ∀ (y z : Pm E) (ss : List (List UInt8)), Wt (wQ (.loop n left)) (wE left) y → Wt (wQ (.loop n left)) (wE left) z → Wt (wQ (.loop n left)) (wE left) (any ss y z) := fun y z ss hy hz => by
      induction ss with
      | nil => exact hz
      | cons s r ih => exact .tst _ _ _ _ hy ih
    refine hany _ _ _ ?_ (.ret _ _ (Nat.le_refl _))
    refine .look _ _ fun t => .next _ _ (.call _ _ _ fun r v hr => ?_)
    by_cases h : n = 2 ∨ n = 3
    · rw [if_pos h]
      refine .ret _ _ ?_
      simp only [wQ, wB, wE_mk, wEs_cons, wEs_nil, List.length_nil] at *
      omega
    · rw [if_neg h]
      refine .call _ _ _ fun b u h2 => .ret _ _ ?_
      simp only [wQ, wB, wE_mk, wEs_cons, wEs_nil, List.length_nil] at *
      omega
  | _ =>
    unfold body
    repeat' first | (apply Wt.ret; simp only [wQ, wB, wE_mk, wEs_cons, wEs_nil, wT_mk, wTs_cons, wTs_nil, wF, wFs, wFn, wFns, List.length_nil, List.length_cons] at *; omega) | (unfold lets) | (unfold funRest) | (intro _) | (constructor)
theorem parse_wt (l : List Tok) : ∀ (n : Nat) (q : NT) (i : Nat) (a : Ret q) (j : Nat), parse l n q i = .ok a j → i ≤ j ∧ wQ q a + i ≤ wB q + j
  | 0, q, i, a, j, h => by cases h
  | n + 1, q, i, a, j, h => ⟨parse_le l (n + 1) q i a j h, run_wt (parse_wt l n) (wt_body q) i a j h⟩
theorem pw_wt {l : List Tok} {q : NT} {i : Nat} {a : Ret q} {j : Nat} (h : pw l q i = .ok a j) : wQ q a + i ≤ wB q + j := (parse_wt l _ q i a j h).2
end Go.Proofs.YtbmcafehpgimfaaGreat.Px
/- A program of nothing but its query. -/
namespace Go.Proofs.YtbmcafehpgimfaaGreat.Px
set_option linter.unusedVariables false
open Lx (Tok)
open Pm

section
variable {l : List Tok}
structure NoStart (t : Tok) : Prop where
  k3 : t.kind ≠ 3
  k1 : t.kind ≠ 1
  words : ∀ s, s ∈ [wLet, wIf, wCase, wObserve, wScore, wNot, wMi, wTrue, wFalse, wLp, wLb, wPick, wFlip, wRange] → isT s t = false
theorem run_take {α : Type} {P : (q : NT) → Nat → Rs (Ret q)} {s : List UInt8} {i : Nat} (h : isT s (tk l i) = false) (y n : Pm α) : run P l (take s y n) i = run P l n i := by
  rw [run, h]
  rfl
theorem run_take_yes {α : Type} {P : (q : NT) → Nat → Rs (Ret q)} {s : List UInt8} {i : Nat} (h : isT s (tk l i) = true) (y n : Pm α) : run P l (take s y n) i = run P l y (i + 1) := by
  rw [run, h]
  rfl
theorem isT_not {s w : List UInt8} {t : Tok} (h : isT w t = true) (hne : w ≠ s) : isT s t = false := by
  unfold isT at h ⊢
  rw [Bool.and_eq_true, beq_iff_eq] at h
  rw [h.2, beq_eq_false_iff_ne.2 hne, Bool.and_false]
end
end Go.Proofs.YtbmcafehpgimfaaGreat.Px
