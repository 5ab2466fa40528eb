/- Syntax trees; the grammar as readers of a small language; what reading with a given fuel does. -/
import Derived.Test.YtbmcafehpgimfaaLexA
namespace Go.Proofs.Ytbmcafehpgimfaa.Px
set_option linter.unusedVariables false
set_option linter.unusedSimpArgs false
open Lx (Tok)

inductive T where
  | mk (k : Int) (l : List T)
deriving Inhabited
inductive E where
  | mk (k n : Int) (name : List UInt8) (names : List (List UInt8)) (odds : List Int) (kids : List E) (line col : Int)
deriving Inhabited
structure Fld where
  name : List UInt8
  typ : T
  line : Int
  col : Int
deriving Inhabited
structure Fnc where
  name : List UInt8
  params : List Fld
  res : T
  body : E
  line : Int
  col : Int
deriving Inhabited
structure Pg where
  inputs : List Fld
  funs : List Fnc
  query : E
deriving Inhabited
def T.k : T → Int | .mk k _ => k
def T.l : T → List T | .mk _ l => l
def E.k : E → Int | .mk k _ _ _ _ _ _ _ => k
def E.n : E → Int | .mk _ n _ _ _ _ _ _ => n
def E.name : E → List UInt8 | .mk _ _ s _ _ _ _ _ => s
def E.names : E → List (List UInt8) | .mk _ _ _ l _ _ _ _ => l
def E.odds : E → List Int | .mk _ _ _ _ o _ _ _ => o
def E.kids : E → List E | .mk _ _ _ _ _ l _ _ => l
def E.line : E → Int | .mk _ _ _ _ _ _ a _ => a
def E.col : E → Int | .mk _ _ _ _ _ _ _ b => b

/-! ### The words and signs -/
abbrev wBool : List UInt8 := [98, 111, 111, 108]
abbrev wInt : List UInt8 := [105, 110, 116]
abbrev wLet : List UInt8 := [108, 101, 116]
abbrev wIf : List UInt8 := [105, 102]
abbrev wCase : List UInt8 := [99, 97, 115, 101]
abbrev wObserve : List UInt8 := [111, 98, 115, 101, 114, 118, 101]
abbrev wScore : List UInt8 := [115, 99, 111, 114, 101]
abbrev wIn : List UInt8 := [105, 110]
abbrev wThen : List UInt8 := [116, 104, 101, 110]
abbrev wElse : List UInt8 := [101, 108, 115, 101]
abbrev wOf : List UInt8 := [111, 102]
abbrev wOr : List UInt8 := [111, 114]
abbrev wAnd : List UInt8 := [97, 110, 100]
abbrev wNot : List UInt8 := [110, 111, 116]
abbrev wNeg : List UInt8 := [110, 101, 103]
abbrev wTrue : List UInt8 := [116, 114, 117, 101]
abbrev wFalse : List UInt8 := [102, 97, 108, 115, 101]
abbrev wPick : List UInt8 := [112, 105, 99, 107]
abbrev wFlip : List UInt8 := [102, 108, 105, 112]
abbrev wRange : List UInt8 := [114, 97, 110, 103, 101]
abbrev wInput : List UInt8 := [105, 110, 112, 117, 116]
abbrev wFun : List UInt8 := [102, 117, 110]
abbrev wLp : List UInt8 := [40]
abbrev wRp : List UInt8 := [41]
abbrev wLb : List UInt8 := [91]
abbrev wRb : List UInt8 := [93]
abbrev wLc : List UInt8 := [123]
abbrev wRc : List UInt8 := [125]
abbrev wCm : List UInt8 := [44]
abbrev wSc : List UInt8 := [59]
abbrev wCl : List UInt8 := [58]
abbrev wBar : List UInt8 := [124]
abbrev wAr : List UInt8 := [61, 62]
abbrev wEq : List UInt8 := [61]
abbrev wEqEq : List UInt8 := [61, 61]
abbrev wLt : List UInt8 := [60]
abbrev wLe : List UInt8 := [60, 61]
abbrev wCc : List UInt8 := [58, 58]
abbrev wPl : List UInt8 := [43]
abbrev wMi : List UInt8 := [45]
abbrev wTi : List UInt8 := [42]
abbrev wSl : List UInt8 := [47]
abbrev wPc : List UInt8 := [37]

/-! ### Readers -/
inductive NT where
  | typ | typs | field | fields | fun_ | expr | names | level (n : Nat) | loop (n : Nat) (left : E) | unary | atom | list (e : List UInt8) | rest (e : List UInt8) | pick | share | bound | inputs | funs | program
abbrev Ret : NT → Type
  | .typ => T
  | .typs => List T
  | .field => Fld
  | .fields => List Fld
  | .fun_ => Fnc
  | .names => List (List UInt8)
  | .list _ => List E
  | .rest _ => List E
  | .pick => List Int × List E
  | .share => List Int
  | .bound => Int
  | .inputs => List Fld
  | .funs => List Fnc
  | .program => Pg
  | .expr => E
  | .level _ => E
  | .loop _ _ => E
  | .unary => E
  | .atom => E
inductive Pm (α : Type) where
  | ret (a : α)
  | fail
  | tst (s : List UInt8) (y n : Pm α)
  | knd (k : Int) (y n : Pm α)
  | look (f : Tok → Pm α)
  | next (m : Pm α)
  | call (q : NT) (f : Ret q → Pm α)
namespace Pm
variable {α : Type}
abbrev take (s : List UInt8) (y n : Pm α) : Pm α := .tst s (.next y) n
abbrev want (s : List UInt8) (m : Pm α) : Pm α := .tst s (.next m) .fail
abbrev kind (k : Int) (f : Tok → Pm α) : Pm α := .knd k (.look fun t => .next (f t)) .fail
abbrev any (l : List (List UInt8)) (y n : Pm α) : Pm α := l.foldr (fun s acc => .tst s y acc) n
end Pm
open Pm
def opsOf : Nat → List (List UInt8)
  | 0 => [wOr]
  | 1 => [wAnd]
  | 2 => [wEqEq, wLt, wLe]
  | 3 => [wCc]
  | 4 => [wPl, wMi]
  | 5 => [wTi, wSl, wPc]
  | _ => []
def lets (t : Tok) (ns : List (List UInt8)) : Pm E :=
  want wEq (.call .expr fun x => want wIn (.call .expr fun y => .ret (.mk 8 0 [] ns [] [x, y] t.line t.col)))
def funRest (t : Tok) (ps : List Fld) : Pm Fnc :=
  want wCl (.call .typ fun ty => want wEq (.call .expr fun b => want wSc (.ret ⟨t.text, ps, ty, b, t.line, t.col⟩)))
abbrev caseK2 (t : Tok) (x : E) : Pm E :=
  .call .expr fun y => want wBar (kind 1 fun a => want wCc (kind 1 fun b => want wAr (.call .expr fun z => .ret (E.mk 10 0 [] [a.text, b.text] [] [x, y, z] t.line t.col))))
abbrev caseK (t : Tok) : Pm E := .call .expr fun x => want wOf (want wLb (want wRb (want wAr (caseK2 t x))))
def body : (q : NT) → Pm (Ret q)
  | .typ => take wBool (.ret (T.mk 1 [])) (take wInt (.ret (T.mk 2 [])) (take wLb (.call .typ fun t => want wRb (.ret (T.mk 4 [t])))
      (want wLp (.call .typ fun a => want wCm (.call .typ fun b => .call .typs fun r => .ret (T.mk 3 (a :: b :: r)))))))
  | .typs => take wCm (.call .typ fun a => .call .typs fun r => .ret (a :: r)) (want wRp (.ret []))
  | .field => kind 1 fun t => want wCl (.call .typ fun ty => .ret ⟨t.text, ty, t.line, t.col⟩)
  | .fields => take wCm (.call .field fun a => .call .fields fun r => .ret (a :: r)) (want wRp (.ret []))
  | .fun_ => kind 1 fun t => want wLp (take wRp (funRest t []) (.call .field fun a => .call .fields fun r => funRest t (a :: r)))
  | .names => take wCm (kind 1 fun a => .call .names fun r => .ret (a.text :: r)) (want wRp (.ret []))
  | .expr => .look fun t =>
      take wLet (take wLp (kind 1 fun a => want wCm (kind 1 fun b => .call .names fun r => lets t (a.text :: b.text :: r))) (kind 1 fun a => lets t [a.text]))
      (take wIf (.call .expr fun x => want wThen (.call .expr fun y => want wElse (.call .expr fun z => .ret (E.mk 9 0 [] [] [] [x, y, z] t.line t.col))))
      (take wCase (caseK t)
      (take wObserve (.call .expr fun x => want wIn (.call .expr fun y => .ret (E.mk 11 0 [] [] [] [x, y] t.line t.col)))
      (take wScore (.call .share fun o => want wIn (.call .expr fun x => .ret (E.mk 12 0 [] [] o [x] t.line t.col)))
      (.call (.level 0) .ret)))))
  | .level n => match n with
    | 0 => .call (.level 1) fun l => .call (.loop 0 l) .ret
    | 1 => .call (.level 2) fun l => .call (.loop 1 l) .ret
    | 2 => .call (.level 3) fun l => .call (.loop 2 l) .ret
    | 3 => .call (.level 4) fun l => .call (.loop 3 l) .ret
    | 4 => .call (.level 5) fun l => .call (.loop 4 l) .ret
    | 5 => .call (.level 6) fun l => .call (.loop 5 l) .ret
    | _ => .call .unary .ret
  | .loop n left => any (opsOf n) (.look fun t => .next (.call (.level (if n = 3 then 3 else n + 1)) fun r =>
      if n = 2 ∨ n = 3 then .ret (E.mk 7 0 t.text [] [] [left, r] t.line t.col) else .call (.loop n (E.mk 7 0 t.text [] [] [left, r] t.line t.col)) .ret)) (.ret left)
  | .unary => .look fun t => take wNot (.call .unary fun x => .ret (E.mk 7 0 wNot [] [] [x] t.line t.col)) (take wMi (.call .unary fun x => .ret (E.mk 7 0 wNeg [] [] [x] t.line t.col)) (.call .atom .ret))
  | .atom => .look fun t =>
      .knd 3 (.next (.ret (E.mk 1 t.n [] [] [] [] t.line t.col)))
      (.knd 1 (.next (take wLp (.call (.list wRp) fun ks => .ret (E.mk 4 0 t.text [] [] ks t.line t.col)) (.ret (E.mk 3 0 t.text [] [] [] t.line t.col))))
      (take wTrue (.ret (E.mk 2 1 [] [] [] [] t.line t.col))
      (take wFalse (.ret (E.mk 2 0 [] [] [] [] t.line t.col))
      (take wLp (.call .expr fun a => take wRp (.ret a) (want wCm (.call .expr fun b => .call (.rest wRp) fun r => .ret (E.mk 5 0 [] [] [] (a :: b :: r) t.line t.col))))
      (take wLb (.call (.list wRb) fun ks => .ret (E.mk 6 0 [] [] [] ks t.line t.col))
      (take wPick (want wLc (.call .pick fun p => .ret (E.mk 13 0 [] [] p.1 p.2 t.line t.col)))
      (take wFlip (want wLp (.call .share fun o => want wRp (.ret (E.mk 14 0 [] [] o [] t.line t.col))))
      (take wRange (want wLp (.call .bound fun a => want wCm (.call .bound fun b => want wRp (.ret (E.mk 15 0 [] [] [a, b] [] t.line t.col)))))
      .fail))))))))
  | .list e => take e (.ret []) (.call .expr fun a => .call (.rest e) fun r => .ret (a :: r))
  | .rest e => take wCm (.call .expr fun a => .call (.rest e) fun r => .ret (a :: r)) (want e (.ret []))
  | .pick => kind 3 fun t => want wCl (.call .expr fun x => take wCm (.call .pick fun p => .ret (t.n :: p.1, x :: p.2)) (want wRc (.ret ([t.n], [x]))))
  | .share => kind 3 fun p => want wSl (kind 3 fun q => .ret [p.n, q.n])
  | .bound => take wMi (kind 3 fun t => .ret (-t.n)) (kind 3 fun t => .ret t.n)
  | .inputs => take wInput (.call .field fun a => want wSc (.call .inputs fun r => .ret (a :: r))) (.ret [])
  | .funs => take wFun (.call .fun_ fun a => .call .funs fun r => .ret (a :: r)) (.ret [])
  | .program => .call .inputs fun a => .call .funs fun b => .call .expr fun q => .ret ⟨a, b, q⟩

/-! ### What a reader does -/
inductive Rs (α : Type) where
  | ok (a : α) (i : Nat)
  | no (i : Nat)
  | out
def tk (l : List Tok) (i : Nat) : Tok := l.getD i ⟨0, [], 0, 0, 0⟩
def isT (s : List UInt8) (t : Tok) : Bool := (t.kind == 4 || t.kind == 2) && t.text == s
def run {α : Type} (P : (q : NT) → Nat → Rs (Ret q)) (l : List Tok) : Pm α → Nat → Rs α
  | .ret a, i => .ok a i
  | .fail, i => .no i
  | .tst s y n, i => bif isT s (tk l i) then run P l y i else run P l n i
  | .knd k y n, i => bif (tk l i).kind == k then run P l y i else run P l n i
  | .look f, i => run P l (f (tk l i)) i
  | .next m, i => run P l m (i + 1)
  | .call q f, i => match P q i with
    | .ok a j => run P l (f a) j
    | .no j => .no j
    | .out => .out
def parse (l : List Tok) : Nat → (q : NT) → Nat → Rs (Ret q)
  | 0 => fun _ _ => .out
  | n + 1 => fun q i => run (parse l n) l (body q) i

/-! ### Readers of a good form -/
/-- Whether a token was asked for (t), what may be called at once (r), whether one was taken already (c). -/
inductive Adm (rank : NT → Nat) (r : Nat) {α : Type} : Bool → Bool → Pm α → Prop
  | ret (t c : Bool) (a : α) : Adm rank r t c (.ret a)
  | fail (t c : Bool) : Adm rank r t c .fail
  | tst (t c : Bool) (s : List UInt8) (y n : Pm α) : Adm rank r true c y → Adm rank r t c n → Adm rank r t c (.tst s y n)
  | knd (t c : Bool) (k : Int) (y n : Pm α) : k ≠ 5 → k ≠ 0 → Adm rank r true c y → Adm rank r t c n → Adm rank r t c (.knd k y n)
  | look (t c : Bool) (f : Tok → Pm α) : (∀ x, Adm rank r t c (f x)) → Adm rank r t c (.look f)
  | next (c : Bool) (m : Pm α) : Adm rank r false true m → Adm rank r true c (.next m)
  | call (t c : Bool) (q : NT) (f : Ret q → Pm α) : (c = true ∨ rank q < r) → (∀ a, Adm rank r false c (f a)) → Adm rank r t c (.call q f)
def rank : NT → Nat
  | .program => 12
  | .list _ => 11
  | .expr => 10
  | .level n => match n with
    | 0 => 9
    | 1 => 8
    | 2 => 7
    | 3 => 6
    | 4 => 5
    | 5 => 4
    | _ => 3
  | .unary => 2
  | .atom => 1
  | _ => 0
theorem adm_any {α : Type} {r : Nat} {t c : Bool} {y n : Pm α} (hy : Adm rank r true c y) (hn : Adm rank r t c n) : ∀ l : List (List UInt8), Adm rank r t c (any l y n)
  | [] => hn
  | s :: l => .tst t c s y _ hy (adm_any hy hn l)
theorem adm_lets {r : Nat} (t : Tok) (ns : List (List UInt8)) : Adm rank r false true (lets t ns) := by
  unfold lets
  repeat' first | (exact .inl rfl) | (decide) | (intro _) | (constructor)
theorem adm_fun {r : Nat} (t : Tok) (ps : List Fld) : Adm rank r false true (funRest t ps) := by
  unfold funRest
  repeat' first | (exact .inl rfl) | (decide) | (intro _) | (constructor)
theorem adm : ∀ q : NT, Adm rank (rank q) false false (body q) := by
  intro q
  cases q with
  | level n =>
    match n with
    | 0 | 1 | 2 | 3 | 4 | 5 =>
      refine .call _ _ _ _ (.inr (by simp [rank])) fun l => .call _ _ _ _ (.inr (by simp [rank])) fun r => .ret _ _ _
    | n + 6 => exact .call _ _ _ _ (.inr (show (2 : Nat) < 3 by decide)) fun l => .ret _ _ _
  | loop n left =>
    refine adm_any ?_ (.ret _ _ _) _
    refine .look _ _ _ fun t => .next _ _ (.call _ _ _ _ (.inl rfl) fun r => ?_)
    by_cases h : n = 2 ∨ n = 3
    · rw [if_pos h]; exact .ret _ _ _
    · rw [if_neg h]; exact .call _ _ _ _ (.inl rfl) fun _ => .ret _ _ _
  | program =>
    exact .call _ _ _ _ (.inr (by decide)) fun _ => .call _ _ _ _ (.inr (by decide)) fun _ => .call _ _ _ _ (.inr (by decide)) fun _ => .ret _ _ _
  | _ =>
    unfold body
    repeat' first | (exact adm_lets _ _) | (exact adm_fun _ _) | (exact .inl rfl) | (exact .inr (by simp [rank])) | (decide) | (intro _) | (constructor)

/-- The tokens of a text: the last is the end, no other is. -/
structure GoodL (l : List Tok) : Prop where
  last : ∀ i, i < l.length → ((tk l i).kind = 5 ↔ i + 1 = l.length)
def Fine {α : Type} (l : List Tok) (i : Nat) : Rs α → Prop
  | .ok _ j => i ≤ j ∧ j < l.length
  | .no j => i ≤ j ∧ j < l.length
  | .out => True
theorem isT_kind {s : List UInt8} {t : Tok} (h : isT s t = true) : t.kind ≠ 5 := by
  unfold isT at h
  rw [Bool.and_eq_true, Bool.or_eq_true, beq_iff_eq, beq_iff_eq] at h
  omega
theorem Fine.le {α : Type} {l : List Tok} {i j : Nat} {r : Rs α} (hij : i ≤ j) (h : Fine l j r) : Fine l i r := by
  cases r with
  | ok a m => exact ⟨Nat.le_trans hij h.1, h.2⟩
  | no m => exact ⟨Nat.le_trans hij h.1, h.2⟩
  | out => trivial
/-- Reading goes on, and stays within the text. -/
theorem run_fine {α : Type} {P : (q : NT) → Nat → Rs (Ret q)} {l : List Tok} (hl : GoodL l) (hP : ∀ q i, i < l.length → Fine l i (P q i)) {r : Nat} {t c : Bool} {m : Pm α} (hm : Adm rank r t c m) :
    ∀ i, i < l.length → (t = true → i + 1 < l.length) → Fine l i (run P l m i) := by
  induction hm with
  | ret t c a => exact fun i hi _ => ⟨Nat.le_refl _, hi⟩
  | fail t c => exact fun i hi _ => ⟨Nat.le_refl _, hi⟩
  | tst t c s y n _ _ hy hn =>
    intro i hi ht
    unfold run
    cases h : isT s (tk l i) with
    | true =>
      have := isT_kind h
      have h2 := hl.last i hi
      exact hy i hi (fun _ => by have : ¬ (i + 1 = l.length) := fun e => this (h2.2 e); omega)
    | false => exact hn i hi ht
  | knd t c k y n hk hk0 _ _ hy hn =>
    intro i hi ht
    unfold run
    cases h : (tk l i).kind == k with
    | true =>
      have h2 := hl.last i hi
      rw [beq_iff_eq] at h
      exact hy i hi (fun _ => by have : ¬ (i + 1 = l.length) := fun e => hk (h ▸ h2.2 e); omega)
    | false => exact hn i hi ht
  | look t c f _ ih => exact fun i hi ht => ih (tk l i) i hi ht
  | next c m _ ih =>
    intro i hi ht
    exact (ih (i + 1) (ht rfl) (fun h => by cases h)).le (Nat.le_succ i)
  | call t c q f _ _ ih =>
    intro i hi ht
    unfold run
    have := hP q i hi
    cases h : P q i with
    | ok a j =>
      rw [h] at this
      exact (ih a j this.2 (fun h => by cases h)).le this.1
    | no j => rw [h] at this; exact this
    | out => trivial
theorem parse_fine {l : List Tok} (hl : GoodL l) : ∀ (n : Nat) (q : NT) (i : Nat), i < l.length → Fine l i (parse l n q i)
  | 0, q, i, hi => trivial
  | n + 1, q, i, hi => run_fine hl (parse_fine hl n) (adm q) i hi (fun h => by cases h)
/-- Enough fuel. -/
theorem run_ends {α : Type} {P : (q : NT) → Nat → Rs (Ret q)} {l : List Tok} (hl : GoodL l) (hF : ∀ q i, i < l.length → Fine l i (P q i)) {r N : Nat} {t c : Bool} {m : Pm α} (hm : Adm rank r t c m) (hr : r ≤ 12)
    (hP : ∀ q i, i < l.length → (l.length - i) * 16 + rank q < N → P q i ≠ .out) :
    ∀ i, i < l.length → (t = true → i + 1 < l.length) → (c = false → (l.length - i) * 16 + r ≤ N) → (c = true → (l.length - i) * 16 + 16 ≤ N) → run P l m i ≠ .out := by
  have rk : ∀ q, rank q ≤ 12 := fun q => by
    cases q with
    | level n => match n with
      | 0 | 1 | 2 | 3 | 4 | 5 => decide
      | n + 6 => exact (by decide : (3 : Nat) ≤ 12)
    | _ => simp [rank]
  induction hm with
  | ret t c a => exact fun i hi _ _ _ h => by cases h
  | fail t c => exact fun i hi _ _ _ h => by cases h
  | tst t c s y n _ _ hy hn =>
    intro i hi ht h1 h2
    unfold run
    cases h : isT s (tk l i) with
    | true =>
      have := isT_kind h
      have h3 := hl.last i hi
      exact hy i hi (fun _ => by have : ¬ (i + 1 = l.length) := fun e => this (h3.2 e); omega) h1 h2
    | false => exact hn i hi ht h1 h2
  | knd t c k y n hk hk0 _ _ hy hn =>
    intro i hi ht h1 h2
    unfold run
    cases h : (tk l i).kind == k with
    | true =>
      have h3 := hl.last i hi
      rw [beq_iff_eq] at h
      exact hy i hi (fun _ => by have : ¬ (i + 1 = l.length) := fun e => hk (h ▸ h3.2 e); omega) h1 h2
    | false => exact hn i hi ht h1 h2
  | look t c f _ ih => exact fun i hi ht h1 h2 => ih (tk l i) i hi ht h1 h2
  | next c m _ ih =>
    intro i hi ht h1 h2
    have := ht rfl
    refine ih (i + 1) this (fun h => by cases h) (fun h => by cases h) (fun _ => ?_)
    cases c with
    | false => have := h1 rfl; omega
    | true => have := h2 rfl; omega
  | call t c q f hq _ ih =>
    intro i hi ht h1 h2
    unfold run
    have hne : P q i ≠ .out := hP q i hi (by
      have := rk q
      cases c with
      | true => have := h2 rfl; omega
      | false =>
        have := h1 rfl
        rcases hq with hq | hq
        · cases hq
        · omega)
    have hf := hF q i hi
    cases h : P q i with
    | ok a j =>
      rw [h] at hf
      obtain ⟨h3, h4⟩ := hf
      exact ih a j h4 (fun h => by cases h) (fun h => by have := h1 h; omega) (fun h => by have := h2 h; omega)
    | no j => exact fun h => by cases h
    | out => exact absurd h hne
theorem parse_ends {l : List Tok} (hl : GoodL l) : ∀ (N : Nat) (q : NT) (i : Nat), i < l.length → (l.length - i) * 16 + rank q < N → parse l N q i ≠ .out
  | 0, q, i, _, h => by omega
  | N + 1, q, i, hi, h => by
    have rk : rank q ≤ 12 := by
      cases q with
      | level n => match n with
        | 0 | 1 | 2 | 3 | 4 | 5 => decide
        | n + 6 => exact (by decide : (3 : Nat) ≤ 12)
      | _ => simp [rank]
    exact run_ends hl (parse_fine hl N) (adm q) rk (parse_ends hl N) i hi (fun h => by cases h) (fun _ => by omega) (fun h => by cases h)
end Go.Proofs.Ytbmcafehpgimfaa.Px
