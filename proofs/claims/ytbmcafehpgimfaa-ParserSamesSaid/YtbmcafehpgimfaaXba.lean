/- Trees and tokens as data of the evaluator. The program's lexer: what the plain scanner tells. From what the rows' condition gives to the evaluator, and back: a law that is true runs so. The program's lexer over a whole text. What the program's readers are to do, as a relation to the small readers; the steps that all share. The program's reader of types. The program's readers: the steps that read an expression, a field, a list; operators. The program's readers of expressions: the loops and the levels. The program's reader of expressions: names, choices, and the head of an expression. The program's reader of atoms; all readers of expressions, by what is left of the text. The program's readers of fields, functions and programs. What the scanner's tokens are like; reading a whole text, with the panic taken up. How deep an expression, a type and a program go. The limits on types and programs. Expr and Program: what they hand back. Same and SameProgram: what they answer. FewProgram answers something, whatever it is handed. FewProgram answers something, whatever it is handed: its loops. The reference's Same and SameProgram: what they answer. The law of Same and SameProgram. Slices handed in: their elements read as rows, and they are no longer than the form's own reach. Programs and expressions handed in, as trees. -/
import Derived.Test.YtbmcafehpgimfaaPv0
import Derived.Test.YtbmcafehpgimfaaXaa
import Derived.Test.YtbmcafehpgimfaaPvL
import Derived.Test.YtbmcafehpgimfaaPw3
import Derived.ProofKit
import Derived.OpenShut
import Derived.Test.YtbmcafehpgimfaaPvP
import Derived.Test.YtbmcafehpgimfaaPvE
import Derived.Test.YtbmcafehpgimfaaPvS
import Derived.Test.YtbmcafehpgimfaaPvW
import Derived.Test.YtbmcafehpgimfaaPvQ
import Derived.Test.YtbmcafehpgimfaaVk
import Derived.Lib.LaidTab
import Derived.LaidMore
namespace Go.Proofs.Ytbmcafehpgimfaa.Ps
set_option linter.unusedVariables false
set_option linter.unusedSimpArgs false
open Go Go.RowKit Px
open Lx (Tok)

def bx (l : List UInt8) : ByteArray := ⟨l.toArray⟩
theorem bx_data (l : List UInt8) : (bx l).data.toList = l := by simp [bx]
theorem bx_self (s : ByteArray) : bx s.data.toList = s := by
  obtain ⟨⟨l⟩⟩ := s
  rfl
theorem beqL_eq (a b : List UInt8) : beqL a b = (a == b) := by
  rw [Bool.eq_iff_iff, beqL_iff, beq_iff_eq]
def Tok.row (t : Tok) : List D := [.int .i64 t.kind, .str (bx t.text), .int .i64 t.n, .int .i64 t.line, .int .i64 t.col]
def toks (l : List Tok) : List (List D) := l.map Tok.row
theorem toks_len (l : List Tok) : (toks l).length = l.length := List.length_map ..
theorem toks_at (l : List Tok) (i : Nat) (h : i < l.length) : (toks l).getD i [] = Tok.row (tk l i) := by
  unfold toks tk
  rw [List.getD_eq_getElem?_getD, List.getD_eq_getElem?_getD, List.getElem?_map, List.getElem?_eq_getElem h]
  rfl
def strs (l : List (List UInt8)) : List (List D) := l.map fun s => [.str (bx s)]
def ints (l : List Int) : List (List D) := l.map fun n => [.int .i64 n]
mutual
def T.row : T → List D
  | .mk k l => [.int .i64 k, .list 2 (T.rows l)]
def T.rows : List T → List (List D)
  | [] => []
  | t :: r => T.row t :: T.rows r
end
mutual
def E.row : E → List D
  | .mk k n s ns os ks a b => [.int .i64 k, .int .i64 n, .str (bx s), .list 1 (strs ns), .list 1 (ints os), .list 8 (E.rows ks), .int .i64 a, .int .i64 b]
def E.rows : List E → List (List D)
  | [] => []
  | t :: r => E.row t :: E.rows r
end
def Fld.row (f : Fld) : List D := [.str (bx f.name), .int .i64 f.typ.k, .list 2 (T.rows f.typ.l), .int .i64 f.line, .int .i64 f.col]
def Fld.rows (l : List Fld) : List (List D) := l.map Fld.row
def Fnc.row (f : Fnc) : List D := [.str (bx f.name), .list 5 (Fld.rows f.params), .int .i64 f.res.k, .list 2 (T.rows f.res.l)] ++ E.row f.body ++ [.int .i64 f.line, .int .i64 f.col]
def Fnc.rows (l : List Fnc) : List (List D) := l.map Fnc.row
theorem T.row_eq (t : T) : T.row t = [.int .i64 t.k, .list 2 (T.rows t.l)] := by cases t; rw [T.row]; rfl
theorem E.row_eq (e : E) : E.row e = [.int .i64 e.k, .int .i64 e.n, .str (bx e.name), .list 1 (strs e.names), .list 1 (ints e.odds), .list 8 (E.rows e.kids), .int .i64 e.line, .int .i64 e.col] := by cases e; rw [E.row]; rfl
theorem T.rows_map : ∀ l : List T, T.rows l = l.map T.row
  | [] => by rw [T.rows]; rfl
  | t :: r => by rw [T.rows, T.rows_map r]; rfl
theorem E.rows_map : ∀ l : List E, E.rows l = l.map E.row
  | [] => by rw [E.rows]; rfl
  | t :: r => by rw [E.rows, E.rows_map r]; rfl
theorem rows_getD {α : Type} [Inhabited α] (f : α → List D) (l : List α) (i : Nat) (h : i < l.length) : (l.map f).getD i [] = f (l.getD i default) := by
  rw [List.getD_eq_getElem?_getD, List.getD_eq_getElem?_getD, List.getElem?_map, List.getElem?_eq_getElem h]
  rfl
abbrev iX (n : Int) : X := X.d (D.int IntKind.i64 n)
abbrev sX (s : List UInt8) : X := X.d (D.str (bx s))
abbrev bX (b : Bool) : X := X.d (D.bool b)
def eV (e : E) : V := V.agg [X.d (D.int IntKind.i64 e.k), X.d (D.int IntKind.i64 e.n), X.d (D.str (bx e.name)), X.d (D.list 1 (strs e.names)), X.d (D.list 1 (ints e.odds)), X.d (D.list 8 (E.rows e.kids)), X.d (D.int IntKind.i64 e.line), X.d (D.int IntKind.i64 e.col)]
def tV (t : T) : V := V.agg [X.d (D.int IntKind.i64 t.k), X.d (D.list 2 (T.rows t.l))]
def fV (f : Fld) : V := V.agg [X.d (D.str (bx f.name)), X.d (D.int IntKind.i64 f.typ.k), X.d (D.list 2 (T.rows f.typ.l)), X.d (D.int IntKind.i64 f.line), X.d (D.int IntKind.i64 f.col)]
def kV (t : Tok) : V := V.agg [X.d (D.int IntKind.i64 t.kind), X.d (D.str (bx t.text)), X.d (D.int IntKind.i64 t.n), X.d (D.int IntKind.i64 t.line), X.d (D.int IntKind.i64 t.col)]
theorem wrap_in (n : Int) (h : -9223372036854775808 ≤ n) (h' : n ≤ 9223372036854775807) : IntKind.wrap .i64 n = n := by
  have e1 : IntKind.bits .i64 = 64 := rfl
  have e2 : IntKind.signed .i64 = true := rfl
  have e3 : (2 ^ 64 : Int) = 18446744073709551616 := rfl
  have e4 : (2 ^ 63 : Int) = 9223372036854775808 := rfl
  unfold IntKind.wrap
  simp only [e1, e2, e3, e4, Bool.true_and, decide_eq_true_eq, ge_iff_le]
  omega
theorem wrap_up (i : Nat) (h : i < 9223372036854775807) : IntKind.wrap .i64 (Int.ofNat i + 1) = Int.ofNat (i + 1) := wrap_in _ (by have := Int.natCast_nonneg i; simp only [Int.ofNat_eq_natCast]; omega) (by simp only [Int.ofNat_eq_natCast]; omega)
theorem lt_yes (i n : Nat) (h : i < n) : decide (Int.ofNat i < Int.ofNat n) = true := decide_eq_true (Int.ofNat_lt.2 h)
theorem lt_no (i n : Nat) (h : n ≤ i) : decide (Int.ofNat i < Int.ofNat n) = false := decide_eq_false (fun k => by have := Int.ofNat_lt.1 k; omega)
theorem in_range (i n : Nat) (h : i < n) : (decide ((0 : Int) ≤ Int.ofNat i) && decide (Int.ofNat i < Int.ofNat n)) = true := by
  simp only [Int.ofNat_eq_natCast, Bool.and_eq_true, decide_eq_true_eq]
  omega
theorem tn (i : Nat) : Int.toNat (Int.ofNat i) = i := rfl
end Go.Proofs.Ytbmcafehpgimfaa.Ps
namespace Go.Proofs.Ytbmcafehpgimfaa.Ps
set_option linter.unusedVariables false
set_option linter.unusedSimpArgs false
set_option maxRecDepth 4000
open Go Go.RowKit Px Lx

def tokV : Lx.R → V
  | .ok k w n => V.tup [V.agg [iX k, sX w, iX n, iX 0, iX 0], V.one (iX 0)]
  | .bad e w => V.tup [V.agg [iX 0, sX w, iX 0, iX 0, iX 0], V.one (iX e)]
abbrev RV (v : V) : Out := ⟨true, v, D.junk, [], 0⟩
theorem mem_takeWhile (p : UInt8 → Bool) : ∀ (l : List UInt8) (x : UInt8), x ∈ l.takeWhile p → p x = true
  | [], x, h => by simp at h
  | c :: t, x, h => by
    by_cases hc : p c = true
    · rw [List.takeWhile_cons_of_pos hc] at h
      rcases List.mem_cons.1 h with h | h
      · rw [h]; exact hc
      · exact mem_takeWhile p t x h
    · rw [List.takeWhile_cons_of_neg hc] at h; simp at h
/-! ### Words -/
section
variable {x2 x3 x4 x5 x6 x7 : Int} {s3 s4 : ByteArray}
/-! ### Numbers -/
/-- A value, cut off. -/
def cap (v : Nat) : Int := if (v : Int) ≤ 2147483647 then (v : Int) else 2147483648
/-! ### Signs -/
/-! ### One token -/
end
end Go.Proofs.Ytbmcafehpgimfaa.Ps
namespace Go.Proofs.Ytbmcafehpgimfaa.Ps
set_option linter.unusedVariables false
set_option linter.unusedSimpArgs false
open Go Go.RowKit Go.Proofs

/-- How many cells a block has. -/
def cellsIn (w : World) (b : Nat) : Nat := match w.heap[b]? with | some (.cells cs _ _) => cs.size | _ => 0
def g0 (w : World) : G := ⟨w, cellsIn w, fun _ => none, fun _ => none, fun _ => False⟩
theorem entry0 (w : World) : Entry (g0 w) [] where
  blk := fun i x h => by cases h
  out := fun i _ => rfl
  inj := fun i j B h => by cases h
  lt := fun i B h => by cases h
  fresh := fun b h => by
    show cellsIn w b = 0
    have h' : w.heap.size ≤ b := h
    unfold cellsIn
    rw [Array.getElem?_eq_none h']
  live := fun κ h => by cases h
  own := fun κ e s u h => by cases h
  dist := fun κ κ' e s u e' s' u' b h => by cases h
  used := fun κ e s u h => by cases h
  us := fun _ h => h.elim
theorem since0 (w : World) : Since w (g0 w) := ⟨Below.refl _ _, fun b h => by
  rcases h with ⟨i, h⟩ | ⟨κ, e, s, u, h, _⟩ <;> cases h⟩
abbrev sV (s : ByteArray) : V := V.one (X.d (D.str s))
theorem law_calls {w : World} (hs : Sane w) {f : FuncId} {args : List V} {vs : List Value} (hv : RepVs (g0 w) args vs) (h : Cal f args [] (RV (V.one (bX true)))) :
    Calls Try.prog f vs.toArray w fun e w' => e = .returned (.bool true) ∧ Below w.heap.size w w' := by
  obtain ⟨k, hk⟩ := h
  refine (((Ak_ok hs k) f args [] _ (hk k k k (Nat.le_refl _) (Nat.le_refl _) (Nat.le_refl _))) (g0 w) vs (since0 w) (entry0 w) hv).2.mono ?_
  rintro e w' ⟨g', rfl, ho⟩
  obtain ⟨v, rfl, hr⟩ := ho.ok rfl
  rw [hr.bool_eq]
  refine ⟨rfl, ho.step.os, ho.step.tape, ho.step.output, ho.step.size, fun b hb => (ho.step.keep b hb (fun hm => ?_)).1⟩
  rcases hm with ⟨i, h⟩ | ⟨κ, e, s, u, h, _⟩ <;> cases h
end Go.Proofs.Ytbmcafehpgimfaa.Ps
namespace Go.Proofs.Ytbmcafehpgimfaa.Ps
set_option linter.unusedVariables false
set_option linter.unusedSimpArgs false
open Go Go.RowKit Px Lx

def fltX (f : Flt) : List X := [iX f.e, sX f.text, iX f.line, iX f.col]
def fine : List X := [iX 0, sX [], iX 0, iX 0]
def tokOut (acc : List Tok) : Except Flt (List Tok) → V
  | .ok l => V.tup [V.one (X.d (D.list 5 (toks (acc ++ l)))), V.agg fine]
  | .error f => V.tup [V.one (X.d (D.list 5 [])), V.agg (fltX f)]
theorem tok_bad {l : List UInt8} {e : Int} {w : List UInt8} (h : Lx.tok l = .bad e w) : e ≠ 0 := by
  unfold Lx.tok at h
  split at h
  · split at h
    · cases h; decide
    · split at h <;> cases h
  · split at h
    · split at h
      · cases h; decide
      · cases h
    · split at h
      · cases h; decide
      · cases h
def push (acc : List Tok) (t : Tok) (r : Except Flt (List Tok)) : V := tokOut (acc ++ [t]) r
end Go.Proofs.Ytbmcafehpgimfaa.Ps
namespace Go.Proofs.Ytbmcafehpgimfaa.Ps
set_option linter.unusedVariables false
set_option linter.unusedSimpArgs false
open Go Go.RowKit Px
open Lx (Tok)

abbrev RD : List Lf := [Lf.lst 5, Lf.int IntKind.i64]
abbrev rd (l : List Tok) (i : Nat) : List X := [X.d (D.list 5 (toks l)), X.d (D.int IntKind.i64 (Int.ofNat i))]
abbrev rds (l : List Tok) (i : Nat) : List (List Lf × List X) := [(RD, rd l i)]
/-- The fault that a token makes. -/
def flt (t : Tok) : D := D.iface 30 [D.int IntKind.i64 11, D.str (bx t.text), D.int IntKind.i64 t.line, D.int IntKind.i64 t.col]
def outOf {α : Type} (l : List Tok) (enc : α → V) : Rs α → Out
  | .ok a j => ⟨true, enc a, D.junk, [rd l j], 0⟩
  | .no j => ⟨false, V.junk, flt (tk l j), [rd l j], 0⟩
  | .out => ⟨true, V.junk, D.junk, [], 0⟩
/-- F does what the reading r tells. -/
def Sim {α : Type} (l : List Tok) (enc : α → V) (F : Nat → Nat → Nat → Option Out) (r : Rs α) : Prop := r ≠ .out → Ev F (outOf l enc r)
theorem Sim.ret {α : Type} {l : List Tok} {enc : α → V} {F : Nat → Nat → Nat → Option Out} {P : (q : NT) → Nat → Rs (Ret q)} {a : α} {i : Nat} (h : ∀ m k n, F m k n = some ⟨true, enc a, D.junk, [rd l i], 0⟩) : Sim l enc F (run P l (.ret a) i) := fun _ => Ev.of h
theorem Sim.eq {α : Type} {l : List Tok} {enc : α → V} {F G : Nat → Nat → Nat → Option Out} {r : Rs α} (h : Sim l enc G r) (e : ∀ m k n, F m k n = G m k n) : Sim l enc F r := fun hr => (h hr).eq e
/-- The token that comes. -/
theorem C_token {l : List Tok} {i : Nat} (hi : i < l.length) : Cal 49 [V.one (X.ptr 0 0)] (rds l i) ⟨true, kV (tk l i), D.junk, [rd l i], 0⟩ := by
  refine call49 _ _ (Ev.of fun m k n => ?_)
  rw [e49_eq, toks_len, in_range i _ hi, cond_true, tn, toks_at l i hi]
  rfl
theorem C_is {l : List Tok} {i : Nat} (hi : i < l.length) (s : List UInt8) : Cal 80 [V.one (X.ptr 0 0), V.one (X.d (D.str (bx s)))] (rds l i) ⟨true, V.one (X.d (D.bool (isT s (tk l i)))), D.junk, [rd l i], 0⟩ := by
  refine call80 _ _ _ ?_
  simp only [e80_eq]
  refine v_a5ISIII_L5I (C_token hi) ?_
  refine Ev.of fun m k n => ?_
  unfold isT
  rw [bx_data, bx_data, beqL_eq]
  cases h4 : (tk l i).kind == 4
  · cases h2 : (tk l i).kind == 2
    · rfl
    · rfl
  · rfl
theorem C_fail {l : List Tok} {i : Nat} (hi : i < l.length) : Cal 50 [V.one (X.ptr 0 0)] (rds l i) ⟨false, V.junk, flt (tk l i), [rd l i], 0⟩ := by
  refine call50 _ _ ?_
  simp only [e50_eq]
  exact v_a5ISIII_L5I (C_token hi) (Ev.of fun m k n => rfl)
theorem up {l : List Tok} (hl : l.length ≤ 1000000) {i : Nat} (hi : i < l.length) : IntKind.wrap .i64 (Int.ofNat i + 1) = Int.ofNat (i + 1) := wrap_up i (by omega)
theorem C_take {l : List Tok} (hl : l.length ≤ 1000000) {i : Nat} (hi : i < l.length) (s : List UInt8) : Cal 51 [V.one (X.ptr 0 0), V.one (X.d (D.str (bx s)))] (rds l i)
    ⟨true, V.one (X.d (D.bool (isT s (tk l i)))), D.junk, [rd l (bif isT s (tk l i) then i + 1 else i)], 0⟩ := by
  refine call51 _ _ _ ?_
  simp only [e51_eq]
  refine v_oB_L5I (C_is hi s) ?_
  refine Ev.of fun m k n => ?_
  cases h : isT s (tk l i)
  · rw [cond_false, q51_0_eq]; rfl
  · rw [cond_true, up hl hi]; rfl
theorem C_want_yes {l : List Tok} (hl : l.length ≤ 1000000) {i : Nat} (hi : i < l.length) {s : List UInt8} (h : isT s (tk l i) = true) : Cal 54 [V.one (X.ptr 0 0), V.one (X.d (D.str (bx s)))] (rds l i)
    ⟨true, V.tup [], D.junk, [rd l (i + 1)], 0⟩ := by
  refine call54 _ _ _ ?_
  simp only [e54_eq]
  have := C_take hl hi s
  rw [h, cond_true] at this
  exact v_oB_L5I this (Ev.of fun m k n => rfl)
theorem C_want_no {l : List Tok} (hl : l.length ≤ 1000000) {i : Nat} (hi : i < l.length) {s : List UInt8} (h : isT s (tk l i) = false) : Cal 54 [V.one (X.ptr 0 0), V.one (X.d (D.str (bx s)))] (rds l i)
    ⟨false, V.junk, flt (tk l i), [rd l i], 0⟩ := by
  refine call54 _ _ _ ?_
  simp only [e54_eq]
  have := C_take hl hi s
  rw [h, cond_false] at this
  refine v_oB_L5I this (Ev.yes rfl ?_)
  exact u_n_L5I (C_fail hi) (Ev.of fun m k n => rfl)
theorem C_kind_yes {l : List Tok} (hl : l.length ≤ 1000000) {i : Nat} (hi : i < l.length) {κ : Int} (h : ((tk l i).kind == κ) = true) : Cal 53 [V.one (X.ptr 0 0), V.one (X.d (D.int IntKind.i64 κ))] (rds l i)
    ⟨true, kV (tk l i), D.junk, [rd l (i + 1)], 0⟩ := by
  refine call53 _ _ _ ?_
  simp only [e53_eq]
  refine v_a5ISIII_L5I (C_token hi) (Ev.of fun m k n => ?_)
  rw [show ((tk l i).kind != κ) = false by rw [bne, h]; rfl, cond_false, q53_0_eq, up hl hi]
  rfl
theorem C_kind_no {l : List Tok} {i : Nat} (hi : i < l.length) {κ : Int} (h : ((tk l i).kind == κ) = false) : Cal 53 [V.one (X.ptr 0 0), V.one (X.d (D.int IntKind.i64 κ))] (rds l i)
    ⟨false, V.junk, flt (tk l i), [rd l i], 0⟩ := by
  refine call53 _ _ _ ?_
  simp only [e53_eq]
  refine v_a5ISIII_L5I (C_token hi) ?_
  simp only [show ((tk l i).kind != κ) = true by rw [bne, h]; rfl, cond_true]
  exact u_n_L5I (C_fail hi) (Ev.of fun m k n => rfl)

/-! ### The steps -/
section
variable {α : Type} {l : List Tok} {enc : α → V} {P : (q : NT) → Nat → Rs (Ret q)}
/-- A panic is handed on. -/
abbrev PanOn (Q : Nat → Nat → Nat → D → List (List D) → Int → Option Out) : Prop := ∀ m k n d w i, Q m k n d w i = some ⟨false, V.junk, d, [[X.d (D.list 5 w), X.d (D.int IntKind.i64 i)]], 0⟩
theorem S_token {i : Nat} (hi : i < l.length) {K : Nat → Nat → Nat → Int → ByteArray → Int → Int → Int → List (List D) → Int → Option Out} {Q : Nat → Nat → Nat → D → List (List D) → Int → Option Out} {f : Tok → Pm α}
    (h : Sim l enc (fun m k n => K m k n (tk l i).kind (bx (tk l i).text) (tk l i).n (tk l i).line (tk l i).col (toks l) (Int.ofNat i)) (run P l (f (tk l i)) i)) :
    Sim l enc (fun m k n => r_a5ISIII_L5I (Ak k false 49 [V.one (X.ptr 0 0)] (rds l i)) (K m k n) (Q m k n)) (run P l (.look f) i) := fun hr => v_a5ISIII_L5I (C_token hi) (h hr)
theorem S_take (hl : l.length ≤ 1000000) {i : Nat} (hi : i < l.length) (s : List UInt8) {K : Nat → Nat → Nat → Bool → List (List D) → Int → Option Out} {Q : Nat → Nat → Nat → D → List (List D) → Int → Option Out} {y n : Pm α}
    (hy : isT s (tk l i) = true → Sim l enc (fun m k n => K m k n true (toks l) (Int.ofNat (i + 1))) (run P l y (i + 1)))
    (hn : isT s (tk l i) = false → Sim l enc (fun m k n => K m k n false (toks l) (Int.ofNat i)) (run P l n i)) :
    Sim l enc (fun m k n => r_oB_L5I (Ak k false 51 [V.one (X.ptr 0 0), V.one (X.d (D.str (bx s)))] (rds l i)) (K m k n) (Q m k n)) (run P l (Pm.take s y n) i) := by
  have hc := C_take hl hi s
  unfold run
  cases h : isT s (tk l i) with
  | true => rw [h] at hc; exact fun hr => v_oB_L5I hc (hy h hr)
  | false => rw [h] at hc; exact fun hr => v_oB_L5I hc (hn h hr)
theorem S_want (hl : l.length ≤ 1000000) {i : Nat} (hi : i < l.length) (s : List UInt8) {K : Nat → Nat → Nat → List (List D) → Int → Option Out} {Q : Nat → Nat → Nat → D → List (List D) → Int → Option Out} {y : Pm α} (hp : PanOn Q)
    (hy : isT s (tk l i) = true → Sim l enc (fun m k n => K m k n (toks l) (Int.ofNat (i + 1))) (run P l y (i + 1))) :
    Sim l enc (fun m k n => r_n_L5I (Ak k false 54 [V.one (X.ptr 0 0), V.one (X.d (D.str (bx s)))] (rds l i)) (K m k n) (Q m k n)) (run P l (Pm.want s y) i) := by
  unfold run
  cases h : isT s (tk l i) with
  | true => exact fun hr => v_n_L5I (C_want_yes hl hi h) (hy h hr)
  | false => exact fun hr => u_n_L5I (C_want_no hl hi h) (Ev.of fun m k n => hp m k n _ _ _)
theorem S_kind (hl : l.length ≤ 1000000) {i : Nat} (hi : i < l.length) (κ : Int) {K : Nat → Nat → Nat → Int → ByteArray → Int → Int → Int → List (List D) → Int → Option Out} {Q : Nat → Nat → Nat → D → List (List D) → Int → Option Out} {f : Tok → Pm α} (hp : PanOn Q)
    (hy : (tk l i).kind = κ → Sim l enc (fun m k n => K m k n (tk l i).kind (bx (tk l i).text) (tk l i).n (tk l i).line (tk l i).col (toks l) (Int.ofNat (i + 1))) (run P l (f (tk l i)) (i + 1))) :
    Sim l enc (fun m k n => r_a5ISIII_L5I (Ak k false 53 [V.one (X.ptr 0 0), V.one (X.d (D.int IntKind.i64 κ))] (rds l i)) (K m k n) (Q m k n)) (run P l (Pm.kind κ f) i) := by
  unfold run
  cases h : (tk l i).kind == κ with
  | true => exact fun hr => v_a5ISIII_L5I (C_kind_yes hl hi h) (hy (by simpa using h) hr)
  | false => exact fun hr => u_a5ISIII_L5I (C_kind_no hi h) (Ev.of fun m k n => hp m k n _ _ _)
end
end Go.Proofs.Ytbmcafehpgimfaa.Ps
namespace Go.Proofs.Ytbmcafehpgimfaa.Ps
set_option linter.unusedVariables false
set_option linter.unusedSimpArgs false
open Go Go.RowKit Px
open Lx (Tok)

theorem Sim.step {α : Type} {l : List Tok} {enc : α → V} {F : Nat → Nat → Nat → Option Out} {r : Rs α} (h : Sim l enc (fun m k n => F (m + 1) k n) r) : Sim l enc F r := fun hr => (h hr).step
theorem Sim.diag {α : Type} {l : List Tok} {enc : α → V} {F : Nat → Nat → Nat → Option Out} {r : Rs α} (h : Sim l enc F r) : Sim l enc (fun m k n => F n k n) r := fun hr => (h hr).diag
theorem Sim.yes {α : Type} {l : List Tok} {enc : α → V} {F G : Nat → Nat → Nat → Option Out} {r : Rs α} {c : Bool} (hc : c = true) (h : Sim l enc F r) : Sim l enc (fun m k n => bif c then F m k n else G m k n) r := fun hr => (h hr).yes hc
theorem Sim.no {α : Type} {l : List Tok} {enc : α → V} {F G : Nat → Nat → Nat → Option Out} {r : Rs α} {c : Bool} (hc : c = false) (h : Sim l enc G r) : Sim l enc (fun m k n => bif c then F m k n else G m k n) r := fun hr => (h hr).no hc
theorem Sim.enc {α β : Type} {l : List Tok} {e : α → V} {e' : β → V} {F : Nat → Nat → Nat → Option Out} {r : Rs α} {g : α → β} (he : ∀ a, e' (g a) = e a) (h : Sim l e F r) : Sim l e' F (thenR r fun a j => .ok (g a) j) := by
  intro hr
  cases r with
  | ok a j =>
    have := h (fun q => by cases q)
    show Ev F ⟨true, e' (g a), D.junk, [rd l j], 0⟩
    rw [he]
    exact this
  | no j => exact h (fun q => by cases q)
  | out => exact absurd rfl hr
/-- A reader of the program does what the reader q does. -/
def Reads {α : Type} (l : List Tok) (f : FuncId) (enc : α → V) (R : Nat → Rs α) : Prop := ∀ i, i < l.length → Sim l enc (fun _ k _ => Ak k false f [V.one (X.ptr 0 0)] (rds l i)) (R i)
/-- The text's tokens are good and few. -/
structure Few (l : List Tok) : Prop where
  good : GoodL l
  len : l.length ≤ 1000000
theorem T.rows_app (a : List T) (b : T) : T.rows (a ++ [b]) = T.rows a ++ [[D.int IntKind.i64 b.k, D.list 2 (T.rows b.l)]] := by
  rw [T.rows_map, T.rows_map, List.map_append, List.map_singleton, T.row_eq, T.rows_map]
theorem T.rows_len (a : List T) : (T.rows a).length = a.length := by rw [T.rows_map, List.length_map]
theorem T.rows_one (a : T) : T.rows [a] = [[D.int IntKind.i64 a.k, D.list 2 (T.rows a.l)]] := T.rows_app [] a
theorem T.rows_two (a b : T) : T.rows [a, b] = [[D.int IntKind.i64 a.k, D.list 2 (T.rows a.l)], [D.int IntKind.i64 b.k, D.list 2 (T.rows b.l)]] := by
  have := T.rows_app [a] b
  rw [T.rows_one] at this
  exact this
theorem roomy (n c : Nat) (hn : n ≤ 1000000) (hc : c ≤ 1000) : Nat.ble ((n + 1) * c) 140737488355328 = true := by
  have h1 : (n + 1) * c ≤ 1000001 * 1000 := Nat.mul_le_mul (by omega) hc
  exact Nat.ble_eq_true_of_le (by omega)
section
variable {α : Type} {l : List Tok} {enc : α → V}
theorem S_T {f : FuncId} {args : List V} {rows : List (List Lf × List X)} {r : Rs T} {g : T → Nat → Rs α} {K : Nat → Nat → Nat → Int → List (List D) → List (List D) → Int → Option Out} {Q : Nat → Nat → Nat → D → List (List D) → Int → Option Out}
    (h : Sim l tV (fun _ k _ => Ak k false f args rows) r) (hp : PanOn Q)
    (hy : ∀ a j, r = .ok a j → Sim l enc (fun m k n => K m k n a.k (T.rows a.l) (toks l) (Int.ofNat j)) (g a j)) :
    Sim l enc (fun m k n => r_a2IL2_L5I (Ak k false f args rows) (K m k n) (Q m k n)) (thenR r g) := by
  cases r with
  | ok a j => exact fun hr => v_a2IL2_L5I (h (fun q => by cases q)) (hy a j rfl hr)
  | no j => exact fun hr => u_a2IL2_L5I (h (fun q => by cases q)) (Ev.of fun m k n => hp m k n _ _ _)
  | out => exact fun hr => absurd rfl hr
end
theorem typ_ok {l : List Tok} (hl : Few l) : ∀ μ i, i < l.length → l.length - i < μ → Sim l tV (fun _ k _ => Ak k false 90 [V.one (X.ptr 0 0)] (rds l i)) (pw l .typ i) ∧
    ∀ (acc : List T) z z' x2, acc.length ≤ i → Sim l tV (fun m k n => l90_0 m (Ak k) n z z' (toks l) (Int.ofNat i) x2 3 (T.rows acc)) (run (pw l) l (.call .typs fun r => .ret (T.mk 3 (acc ++ r))) i)
  | 0, i, hi, h => by omega
  | μ + 1, i, hi, h => by
    have ih := typ_ok hl μ
    have g := hl.good
    refine ⟨?_, fun acc z z' x2 ha => ?_⟩
    · rw [pw_eq g _ i hi]
      refine fun hr => call90 _ _ ((?_ : Sim l tV (fun _ k n => e90 (Ak k) n (toks l) (Int.ofNat i)) (run (pw l) l (body .typ) i)) hr)
      clear hr
      simp only [e90_eq]
      refine S_take hl.len hi wBool (fun h => Sim.yes rfl (Sim.ret fun _ _ _ => rfl)) (fun h => Sim.no rfl ?_)
      refine S_take hl.len hi wInt (fun h => Sim.yes rfl (Sim.ret fun _ _ _ => rfl)) (fun h => Sim.no rfl ?_)
      refine S_take hl.len hi wLb (fun h => Sim.yes rfl ?_) (fun h => Sim.no rfl ?_)
      · have h1 := nx g hi h
        rw [run_call]
        refine S_T (ih _ h1 (by omega)).1 (fun _ _ _ _ _ _ => rfl) fun a j hj => ?_
        have hf := pw_ok g h1 hj
        refine S_want hl.len hf.2 wRb (fun _ _ _ _ _ _ => rfl) fun h2 => Sim.ret fun _ _ _ => ?_
        unfold tV
        rw [T.k, T.l, T.rows_one]
      · simp only [q90_0_eq]
        refine S_want hl.len hi wLp (fun _ _ _ _ _ _ => rfl) fun h2 => ?_
        have h1 := nx g hi h2
        rw [run_call]
        refine S_T (ih _ h1 (by omega)).1 (fun _ _ _ _ _ _ => rfl) fun a j hj => ?_
        have hf := pw_ok g h1 hj
        refine S_want hl.len hf.2 wCm (fun _ _ _ _ _ _ => rfl) fun h3 => ?_
        have h4 := nx g hf.2 h3
        rw [run_call]
        refine S_T (ih _ h4 (by omega)).1 (fun _ _ _ _ _ _ => rfl) fun b j2 hj2 => ?_
        have hf2 := pw_ok g h4 hj2
        rw [← T.rows_two]
        exact Sim.diag ((ih j2 hf2.2 (by omega)).2 [a, b] _ _ _ (by simp only [List.length_cons, List.length_nil]; omega))
    · rw [run_open g _ _ i hi]
      refine Sim.step ?_
      simp only [l90_0_eq]
      refine S_take hl.len hi wCm (fun h => Sim.yes rfl ?_) (fun h => Sim.no rfl ?_)
      · have h1 := nx g hi h
        simp only [q90_1_eq]
        refine Eq.subst (motive := fun r => Sim l tV _ r) (run_call _ _ _).symm ?_
        refine S_T (ih _ h1 (by omega)).1 (fun _ _ _ _ _ _ => rfl) fun a j hj => ?_
        have hf := pw_ok g h1 hj
        refine Sim.yes (by rw [T.rows_len]; exact roomy _ _ (by have := hl.len; omega) (by omega)) ?_
        rw [← T.rows_app]
        have := (ih j hf.2 (by omega)).2 (acc ++ [a]) z z' x2 (by rw [List.length_append, List.length_singleton]; omega)
        simp only [List.append_assoc, List.singleton_append] at this
        exact this
      · simp only [q90_2_eq]
        refine S_want hl.len hi wRp (fun _ _ _ _ _ _ => rfl) fun h2 => Sim.ret fun _ _ _ => ?_
        rw [List.append_nil]
        rfl
end Go.Proofs.Ytbmcafehpgimfaa.Ps
namespace Go.Proofs.Ytbmcafehpgimfaa.Ps
set_option linter.unusedVariables false
set_option linter.unusedSimpArgs false
open Go Go.RowKit Px
open Lx (Tok)

def esV (l : List E) : V := V.one (X.d (D.list 8 (E.rows l)))
def osV (l : List Int) : V := V.one (X.d (D.list 1 (ints l)))
def nV (n : Int) : V := V.one (X.d (D.int IntKind.i64 n))
theorem E.rows_app (a : List E) (b : E) : E.rows (a ++ [b]) = E.rows a ++ [[D.int IntKind.i64 b.k, D.int IntKind.i64 b.n, D.str (bx b.name), D.list 1 (strs b.names), D.list 1 (ints b.odds), D.list 8 (E.rows b.kids), D.int IntKind.i64 b.line, D.int IntKind.i64 b.col]] := by
  rw [E.rows_map, E.rows_map, List.map_append, List.map_singleton, E.row_eq, E.rows_map]
theorem E.rows_len (a : List E) : (E.rows a).length = a.length := by rw [E.rows_map, List.length_map]
theorem E.rows_one (b : E) : E.rows [b] = [[D.int IntKind.i64 b.k, D.int IntKind.i64 b.n, D.str (bx b.name), D.list 1 (strs b.names), D.list 1 (ints b.odds), D.list 8 (E.rows b.kids), D.int IntKind.i64 b.line, D.int IntKind.i64 b.col]] := E.rows_app [] b
theorem E.rows_cons (b : E) (r : List E) : E.rows (b :: r) = [D.int IntKind.i64 b.k, D.int IntKind.i64 b.n, D.str (bx b.name), D.list 1 (strs b.names), D.list 1 (ints b.odds), D.list 8 (E.rows b.kids), D.int IntKind.i64 b.line, D.int IntKind.i64 b.col] :: E.rows r := by
  rw [E.rows_map, List.map_cons, E.row_eq, E.rows_map r]
theorem E.rows_nil : E.rows [] = [] := by rw [E.rows]
theorem strs_app (a : List (List UInt8)) (b : List UInt8) : strs (a ++ [b]) = strs a ++ [[D.str (bx b)]] := by unfold strs; rw [List.map_append]; rfl
theorem strs_len (a : List (List UInt8)) : (strs a).length = a.length := List.length_map ..
section
variable {α : Type} {l : List Tok} {enc : α → V}
theorem S_E {f : FuncId} {args : List V} {rows : List (List Lf × List X)} {r : Rs E} {g : E → Nat → Rs α} {K : Nat → Nat → Nat → Int → Int → ByteArray → List (List D) → List (List D) → List (List D) → Int → Int → List (List D) → Int → Option Out} {Q : Nat → Nat → Nat → D → List (List D) → Int → Option Out}
    (h : Sim l eV (fun _ k _ => Ak k false f args rows) r) (hp : PanOn Q)
    (hy : ∀ a j, r = .ok a j → Sim l enc (fun m k n => K m k n a.k a.n (bx a.name) (strs a.names) (ints a.odds) (E.rows a.kids) a.line a.col (toks l) (Int.ofNat j)) (g a j)) :
    Sim l enc (fun m k n => r_a8IISL1L1L8II_L5I (Ak k false f args rows) (K m k n) (Q m k n)) (thenR r g) := by
  cases r with
  | ok a j => exact fun hr => v_a8IISL1L1L8II_L5I (h (fun q => by cases q)) (hy a j rfl hr)
  | no j => exact fun hr => u_a8IISL1L1L8II_L5I (h (fun q => by cases q)) (Ev.of fun m k n => hp m k n _ _ _)
  | out => exact fun hr => absurd rfl hr
theorem S_F {f : FuncId} {args : List V} {rows : List (List Lf × List X)} {r : Rs Fld} {g : Fld → Nat → Rs α} {K : Nat → Nat → Nat → ByteArray → Int → List (List D) → Int → Int → List (List D) → Int → Option Out} {Q : Nat → Nat → Nat → D → List (List D) → Int → Option Out}
    (h : Sim l fV (fun _ k _ => Ak k false f args rows) r) (hp : PanOn Q)
    (hy : ∀ a j, r = .ok a j → Sim l enc (fun m k n => K m k n (bx a.name) a.typ.k (T.rows a.typ.l) a.line a.col (toks l) (Int.ofNat j)) (g a j)) :
    Sim l enc (fun m k n => r_a5SIL2II_L5I (Ak k false f args rows) (K m k n) (Q m k n)) (thenR r g) := by
  cases r with
  | ok a j => exact fun hr => v_a5SIL2II_L5I (h (fun q => by cases q)) (hy a j rfl hr)
  | no j => exact fun hr => u_a5SIL2II_L5I (h (fun q => by cases q)) (Ev.of fun m k n => hp m k n _ _ _)
  | out => exact fun hr => absurd rfl hr
theorem S_L {f : FuncId} {args : List V} {rows : List (List Lf × List X)} {r : Rs (List E)} {g : List E → Nat → Rs α} {K : Nat → Nat → Nat → List (List D) → List (List D) → Int → Option Out} {Q : Nat → Nat → Nat → D → List (List D) → Int → Option Out}
    (h : Sim l esV (fun _ k _ => Ak k false f args rows) r) (hp : PanOn Q)
    (hy : ∀ a j, r = .ok a j → Sim l enc (fun m k n => K m k n (E.rows a) (toks l) (Int.ofNat j)) (g a j)) :
    Sim l enc (fun m k n => r_oL8_L5I (Ak k false f args rows) (K m k n) (Q m k n)) (thenR r g) := by
  cases r with
  | ok a j => exact fun hr => v_oL8_L5I (h (fun q => by cases q)) (hy a j rfl hr)
  | no j => exact fun hr => u_oL8_L5I (h (fun q => by cases q)) (Ev.of fun m k n => hp m k n _ _ _)
  | out => exact fun hr => absurd rfl hr
theorem S_O {f : FuncId} {args : List V} {rows : List (List Lf × List X)} {r : Rs (List Int)} {g : List Int → Nat → Rs α} {K : Nat → Nat → Nat → List (List D) → List (List D) → Int → Option Out} {Q : Nat → Nat → Nat → D → List (List D) → Int → Option Out}
    (h : Sim l osV (fun _ k _ => Ak k false f args rows) r) (hp : PanOn Q)
    (hy : ∀ a j, r = .ok a j → Sim l enc (fun m k n => K m k n (ints a) (toks l) (Int.ofNat j)) (g a j)) :
    Sim l enc (fun m k n => r_oL1_L5I (Ak k false f args rows) (K m k n) (Q m k n)) (thenR r g) := by
  cases r with
  | ok a j => exact fun hr => v_oL1_L5I (h (fun q => by cases q)) (hy a j rfl hr)
  | no j => exact fun hr => u_oL1_L5I (h (fun q => by cases q)) (Ev.of fun m k n => hp m k n _ _ _)
  | out => exact fun hr => absurd rfl hr
theorem S_I {f : FuncId} {args : List V} {rows : List (List Lf × List X)} {r : Rs Int} {g : Int → Nat → Rs α} {K : Nat → Nat → Nat → Int → List (List D) → Int → Option Out} {Q : Nat → Nat → Nat → D → List (List D) → Int → Option Out}
    (h : Sim l nV (fun _ k _ => Ak k false f args rows) r) (hp : PanOn Q)
    (hy : ∀ a j, r = .ok a j → Sim l enc (fun m k n => K m k n a (toks l) (Int.ofNat j)) (g a j)) :
    Sim l enc (fun m k n => r_oI_L5I (Ak k false f args rows) (K m k n) (Q m k n)) (thenR r g) := by
  cases r with
  | ok a j => exact fun hr => v_oI_L5I (h (fun q => by cases q)) (hy a j rfl hr)
  | no j => exact fun hr => u_oI_L5I (h (fun q => by cases q)) (Ev.of fun m k n => hp m k n _ _ _)
  | out => exact fun hr => absurd rfl hr
/-- A new expression. -/
theorem S_begin (κ : Int) (t : Tok) {r : Rs α} {K : Nat → Nat → Nat → Int → Int → ByteArray → Int → Int → Option Out} {Q : Nat → Nat → Nat → D → Option Out}
    (h : Sim l enc (fun m k n => K m k n κ 0 (bx []) t.line t.col) r) :
    Sim l enc (fun m k n => r_a8IISN1N1N8II (Ak k false 52 [V.one (X.d (D.int IntKind.i64 κ)), V.agg [X.d (D.int IntKind.i64 t.kind), X.d (D.str (bx t.text)), X.d (D.int IntKind.i64 t.n), X.d (D.int IntKind.i64 t.line), X.d (D.int IntKind.i64 t.col)]] []) (K m k n) (Q m k n)) r :=
  fun hr => v_a8IISN1N1N8II (call52 _ _ _ _ _ _ (Ev.of fun m k n => by rw [e52_eq]; rfl)) (h hr)
end
/-! ### Does a list hold a string? -/
theorem L_index (ls : List (List UInt8)) (hls : ls.length ≤ 1000000) (s : List UInt8) : ∀ (d i : Nat), ls.length - i ≤ d → i ≤ ls.length → ∃ v : Int, (decide (v ≥ 0) = (ls.drop i).contains s) ∧
    Ev (fun m k n => l103_0 m (Ak k) n (strs ls) (bx s) (Int.ofNat ls.length) (Int.ofNat i)) ⟨true, V.one (X.d (D.int IntKind.i64 v)), D.junk, [], 0⟩ := by
  intro d
  induction d with
  | zero =>
    intro i h hi
    refine ⟨-1, ?_, ?_⟩
    · rw [List.drop_eq_nil_of_le (by omega)]; rfl
    · refine Ev.step ?_
      simp only [l103_0_eq, lt_no i _ (show ls.length ≤ i by omega), cond_false]
      exact Ev.of fun m k n => by rw [q103_2_eq]
  | succ d ih =>
    intro i h hi
    by_cases hlt : i < ls.length
    · have hat : (strs ls).getD i [] = [D.str (bx (ls.getD i []))] := by
        unfold strs
        rw [rows_getD _ _ _ hlt]
        rfl
      have hdrop : ls.drop i = ls.getD i [] :: ls.drop (i + 1) := by
        rw [List.drop_eq_getElem_cons hlt, List.getD_eq_getElem?_getD, List.getElem?_eq_getElem hlt]
        rfl
      by_cases he : ls.getD i [] = s
      · refine ⟨Int.ofNat i, ?_, ?_⟩
        · rw [hdrop, he]
          simp
        · refine Ev.step ?_
          simp only [l103_0_eq, lt_yes i _ hlt, cond_true]
          refine Ev.of fun m k n => ?_
          rw [q103_0_eq, strs_len, in_range i _ hlt, cond_true, tn, hat, he]
          show (bif beqL (bx s).data.toList (bx s).data.toList then _ else _) = _
          rw [beqL_eq, beq_self_eq_true]
          rfl
      · obtain ⟨v, hv, hev⟩ := ih (i + 1) (by omega) (by omega)
        refine ⟨v, ?_, ?_⟩
        · rw [hv, hdrop, List.contains_cons]
          have : (s == ls.getD i []) = false := by simpa using fun e => he e.symm
          rw [this, Bool.false_or]
        · refine Ev.step (Ev.eq hev fun m k n => ?_)
          rw [l103_0_eq, lt_yes i _ hlt, cond_true, q103_0_eq, strs_len, in_range i _ hlt, cond_true, tn, hat]
          show (bif beqL (bx s).data.toList (bx (ls.getD i [])).data.toList then _ else _) = _
          rw [beqL_eq, bx_data, bx_data, show (s == ls.getD i []) = false by simpa using fun e => he e.symm, cond_false, q103_1_eq, wrap_up i (by omega)]
    · refine ⟨-1, ?_, ?_⟩
      · rw [List.drop_eq_nil_of_le (by omega)]; rfl
      · refine Ev.step ?_
        simp only [l103_0_eq, lt_no i _ (show ls.length ≤ i by omega), cond_false]
        exact Ev.of fun m k n => by rw [q103_2_eq]
theorem C_contains (ls : List (List UInt8)) (hls : ls.length ≤ 1000000) (s : List UInt8) : Cal 95 [V.one (X.d (D.list 1 (strs ls))), V.one (X.d (D.str (bx s)))] [] ⟨true, V.one (X.d (D.bool (ls.contains s))), D.junk, [], 0⟩ := by
  obtain ⟨v, hv, hev⟩ := L_index ls hls s ls.length 0 (by omega) (by omega)
  refine call95 _ _ ?_
  simp only [e95_eq]
  refine v_oI (y0 := v) (call103 _ _ ?_) (Ev.of fun m k n => by rw [hv]; rfl)
  simp only [e103_eq, strs_len]
  exact Ev.diag hev
/-! ### The operator that comes -/
def opAt (n : Nat) (t : Tok) : List UInt8 := if (opsOf n).any (fun s => isT s t) then t.text else []
theorem run_any {α : Type} {P : (q : NT) → Nat → Rs (Ret q)} {l : List Tok} (y n : Pm α) (i : Nat) : ∀ ss : List (List UInt8), run P l (Pm.any ss y n) i = if ss.any (fun s => isT s (tk l i)) then run P l y i else run P l n i
  | [] => rfl
  | s :: ss => by
    show run P l (.tst s y (Pm.any ss y n)) i = _
    rw [run, List.any_cons]
    cases isT s (tk l i)
    · rw [cond_false, Bool.false_or]; exact run_any y n i ss
    · rfl
theorem isT_sign {s : List UInt8} {t : Tok} (h : (t.kind == 4 || t.kind == 2) = true) : isT s t = (t.text == s) := by unfold isT; rw [h, Bool.true_and]
theorem isT_none {s : List UInt8} {t : Tok} (h : (t.kind == 4 || t.kind == 2) = false) : isT s t = false := by unfold isT; rw [h, Bool.false_and]
theorem C_oper {l : List Tok} {i : Nat} (hi : i < l.length) (n : Nat) (hn : n ≤ 5) : Cal 82 [V.one (X.ptr 0 0), V.one (X.d (D.int IntKind.i64 (Int.ofNat n)))] (rds l i) ⟨true, V.one (X.d (D.str (bx (opAt n (tk l i))))), D.junk, [rd l i], 0⟩ := by
  refine call82 _ _ _ ?_
  simp only [e82_eq]
  refine v_a5ISIII_L5I (C_token hi) ?_
  generalize tk l i = t
  cases hk : (t.kind == 4 || t.kind == 2) with
  | false =>
    rw [Bool.or_eq_false_iff] at hk
    have h0 : opAt n t = [] := by
      unfold opAt
      rw [if_neg]
      rw [Bool.not_eq_true, List.any_eq_false]
      exact fun s _ => by rw [isT_none (by rw [hk.1, hk.2]; rfl)]; simp
    refine Ev.of fun m k n' => ?_
    rw [h0, show (t.kind != 4) = true by rw [bne, hk.1]; rfl, show (t.kind != 2) = true by rw [bne, hk.2]; rfl]
    rfl
  | true =>
    have hq : Ev (fun m k n' => q82_0 (Ak k) n' (toks l) (Int.ofNat i) (Int.ofNat n) (toks l) (Int.ofNat i) t.kind (bx t.text) t.n t.line t.col) ⟨true, V.one (X.d (D.str (bx (opAt n t)))), D.junk, [rd l i], 0⟩ := by
      have e1 : ∀ s, isT s t = (t.text == s) := fun s => isT_sign hk
      simp only [q82_0_eq, beqL_eq, bx_data, q82_1_eq]
      unfold opAt
      simp only [e1]
      have fin : ∀ {c : Bool} {z : List UInt8}, c = true → Ev (fun _ _ _ => some (Out.mk true (V.one (X.d (D.str (bx t.text)))) D.junk [rd l i] 0)) ⟨true, V.one (X.d (D.str (bx (if c = true then t.text else z)))), D.junk, [rd l i], 0⟩ := fun {c z} h => by rw [if_pos h]; exact Ev.ret _
      have non : ∀ {c : Bool} {z : List UInt8}, c = false → Ev (fun _ _ _ => some (Out.mk true (V.one (X.d (D.str ⟨#[]⟩))) D.junk [rd l i] 0)) ⟨true, V.one (X.d (D.str (bx (if c = true then z else [])))), D.junk, [rd l i], 0⟩ := fun {c z} h => by rw [h]; exact Ev.ret _
      match n, hn with
      | 0, _ =>
        cases h : t.text == wOr
        · exact non (by simp [opsOf, h])
        · exact fin (by simp [opsOf, h])
      | 1, _ =>
        cases h : t.text == wAnd
        · exact non (by simp [opsOf, h])
        · exact fin (by simp [opsOf, h])
      | 2, _ =>
        refine Ev.no rfl (Ev.no rfl (Ev.yes rfl ?_))
        refine v_oB (C_contains [wEqEq, wLt, wLe] (by simp) t.text) ?_
        have e2 : [wEqEq, wLt, wLe].contains t.text = (opsOf 2).any fun s => t.text == s := by
          rw [List.contains_cons, List.contains_cons, List.contains_cons, List.contains_nil]
          rfl
        rw [← e2]
        cases h : [wEqEq, wLt, wLe].contains t.text
        · exact non rfl
        · exact fin rfl
      | 3, _ =>
        cases h : t.text == wCc
        · exact non (by simp [opsOf, h])
        · exact fin (by simp [opsOf, h])
      | 4, _ =>
        cases h : t.text == wPl
        · cases h2 : t.text == wMi
          · exact non (by simp [opsOf, h, h2])
          · exact fin (by simp [opsOf, h, h2])
        · exact fin (by simp [opsOf, h])
      | 5, _ =>
        cases h : t.text == wTi
        · cases h2 : t.text == wSl
          · cases h3 : t.text == wPc
            · exact non (by simp [opsOf, h, h2, h3])
            · exact fin (by simp [opsOf, h, h2, h3])
          · exact fin (by simp [opsOf, h, h2])
        · exact fin (by simp [opsOf, h])
    cases h4 : t.kind == 4
    · rw [h4, Bool.false_or] at hk
      refine Ev.eq hq fun m k n' => ?_
      rw [show (t.kind != 4) = true by rw [bne, h4]; rfl, show (t.kind != 2) = false by rw [bne, hk]; rfl]
      rfl
    · refine Ev.eq hq fun m k n' => ?_
      rw [show (t.kind != 4) = false by rw [bne, h4]; rfl]
      rfl
end Go.Proofs.Ytbmcafehpgimfaa.Ps
namespace Go.Proofs.Ytbmcafehpgimfaa.Ps
set_option linter.unusedVariables false
set_option linter.unusedSimpArgs false
open Go Go.RowKit Px
open Lx (Tok)

/-- The text's numbers are small. -/
def Nums (l : List Tok) : Prop := ∀ i, 0 ≤ (tk l i).n ∧ (tk l i).n ≤ 2147483647
structure AllAt (l : List Tok) (i : Nat) : Prop where
  expr : Sim l eV (fun _ k _ => Ak k false 24 [V.one (X.ptr 0 0)] (rds l i)) (pw l .expr i)
  level : ∀ n, n ≤ 6 → Sim l eV (fun _ k _ => Ak k false 56 [V.one (X.ptr 0 0), V.one (X.d (D.int IntKind.i64 (Int.ofNat n)))] (rds l i)) (pw l (.level n) i)
  unary : Sim l eV (fun _ k _ => Ak k false 81 [V.one (X.ptr 0 0)] (rds l i)) (pw l .unary i)
  atom : Sim l eV (fun _ k _ => Ak k false 94 [V.one (X.ptr 0 0)] (rds l i)) (pw l .atom i)
  list : ∀ e, Sim l esV (fun _ k _ => Ak k false 101 [V.one (X.ptr 0 0), V.one (X.d (D.str (bx e)))] (rds l i)) (pw l (.list e) i)
abbrev After (l : List Tok) (i : Nat) : Prop := ∀ j, i < j → j < l.length → AllAt l j
section
variable {l : List Tok}
/-! ### Numbers, shares, bounds -/
theorem share_ok (hl : Few l) (i : Nat) (hi : i < l.length) : Sim l osV (fun _ k _ => Ak k false 55 [V.one (X.ptr 0 0)] (rds l i)) (pw l .share i) := by
  have g := hl.good
  rw [pw_eq g _ i hi]
  refine fun hr => call55 _ _ ((?_ : Sim l osV (fun _ k n => e55 (Ak k) n (toks l) (Int.ofNat i)) (run (pw l) l (body .share) i)) hr)
  clear hr
  simp only [e55_eq]
  refine S_kind hl.len hi 3 (fun _ _ _ _ _ _ => rfl) fun h => ?_
  have h1 := nxk g hi h (by decide)
  refine S_want hl.len h1 wSl (fun _ _ _ _ _ _ => rfl) fun h2 => ?_
  have h3 := nx g h1 h2
  refine S_kind hl.len h3 3 (fun _ _ _ _ _ _ => rfl) fun h4 => ?_
  exact Sim.ret fun _ _ _ => rfl
theorem bound_ok (hl : Few l) (hn : Nums l) (i : Nat) (hi : i < l.length) : Sim l nV (fun _ k _ => Ak k false 102 [V.one (X.ptr 0 0)] (rds l i)) (pw l .bound i) := by
  have g := hl.good
  rw [pw_eq g _ i hi]
  refine fun hr => call102 _ _ ((?_ : Sim l nV (fun _ k n => e102 (Ak k) n (toks l) (Int.ofNat i)) (run (pw l) l (body .bound) i)) hr)
  clear hr
  simp only [e102_eq]
  refine S_take hl.len hi wMi (fun h => Sim.yes rfl ?_) (fun h => Sim.no rfl ?_)
  · have h1 := nx g hi h
    refine S_kind hl.len h1 3 (fun _ _ _ _ _ _ => rfl) fun h2 => Sim.ret fun _ _ _ => ?_
    have := hn (i + 1)
    rw [wrap_in _ (by omega) (by omega)]
    show some (Out.mk true (V.one (X.d (D.int IntKind.i64 (0 - (tk l (i + 1)).n)))) D.junk _ 0) = some (Out.mk true (V.one (X.d (D.int IntKind.i64 (-(tk l (i + 1)).n)))) D.junk _ 0)
    rw [Int.zero_sub]
  · simp only [q102_0_eq]
    exact S_kind hl.len hi 3 (fun _ _ _ _ _ _ => rfl) fun h2 => Sim.ret fun _ _ _ => rfl

/-! ### Lists -/
theorem rest_ok (hl : Few l) (e : List UInt8) : ∀ (d i : Nat), i < l.length → l.length - i ≤ d → After l i → ∀ (acc : List E) z z', acc.length ≤ i →
    Sim l esV (fun m k n => l101_0 m (Ak k) n z z' (bx e) (E.rows acc) (toks l) (Int.ofNat i)) (run (pw l) l (.call (.rest e) fun r => .ret (acc ++ r)) i)
  | 0, i, hi, h, _, _, _, _, _ => by omega
  | d + 1, i, hi, h, H, acc, z, z', ha => by
    have g := hl.good
    rw [run_open g _ _ i hi]
    refine Sim.step ?_
    simp only [l101_0_eq]
    refine S_take hl.len hi wCm (fun h => Sim.yes rfl ?_) (fun h => Sim.no rfl ?_)
    · have h1 := nx g hi h
      simp only [q101_1_eq]
      refine Eq.subst (motive := fun r => Sim l esV _ r) (run_call _ _ _).symm ?_
      refine S_E (H _ (by omega) h1).expr (fun _ _ _ _ _ _ => rfl) fun a j hj => ?_
      have hf := pw_ok g h1 hj
      refine Sim.yes (by rw [E.rows_len]; exact roomy _ _ (by have := hl.len; omega) (by omega)) ?_
      rw [← E.rows_app]
      have := rest_ok hl e d j hf.2 (by omega) (fun j' h1 h2 => H j' (by omega) h2) (acc ++ [a]) z z' (by rw [List.length_append, List.length_singleton]; omega)
      simp only [List.append_assoc, List.singleton_append] at this
      exact this
    · simp only [q101_2_eq]
      refine S_want hl.len hi e (fun _ _ _ _ _ _ => rfl) fun h2 => Sim.ret fun _ _ _ => ?_
      rw [List.append_nil]
      rfl
theorem list_ok (hl : Few l) (e : List UInt8) (i : Nat) (hi : i < l.length) (H : After l i) (he : Sim l eV (fun _ k _ => Ak k false 24 [V.one (X.ptr 0 0)] (rds l i)) (pw l .expr i)) (hpos : ∀ a j, pw l .expr i = .ok a j → i < j) :
    Sim l esV (fun _ k _ => Ak k false 101 [V.one (X.ptr 0 0), V.one (X.d (D.str (bx e)))] (rds l i)) (pw l (.list e) i) := by
  have g := hl.good
  rw [pw_eq g _ i hi]
  refine fun hr => call101 _ _ _ ((?_ : Sim l esV (fun _ k n => e101 (Ak k) n (bx e) (toks l) (Int.ofNat i)) (run (pw l) l (body (.list e)) i)) hr)
  clear hr
  simp only [e101_eq]
  refine S_take hl.len hi e (fun h => Sim.yes rfl (Sim.ret fun _ _ _ => ?_)) (fun h => Sim.no rfl ?_)
  · unfold esV
    rw [E.rows_nil]
  · simp only [q101_0_eq]
    refine Eq.subst (motive := fun r => Sim l esV _ r) (run_call _ _ _).symm ?_
    refine S_E he (fun _ _ _ _ _ _ => rfl) fun a j hj => ?_
    have hf := pw_ok g hi hj
    have hp := hpos a j hj
    rw [← E.rows_one]
    exact Sim.diag (rest_ok hl e _ j hf.2 (Nat.le_refl _) (fun j' h1 h2 => H j' (by omega) h2) [a] _ _ (by simp only [List.length_cons, List.length_nil]; omega))

/-! ### Operators -/
theorem loop_ok (hl : Few l) (n : Nat) (hn : n ≤ 5) : ∀ (d i : Nat), i < l.length → l.length - i ≤ d → After l i → ∀ (left : E) z z' x3 x4 s5 x6 x7,
    Sim l eV (fun m k _ => l56_0 m (Ak k) z z' (Int.ofNat n) (toks l) (Int.ofNat i) x3 x4 s5 x6 x7 left.k left.n (bx left.name) (strs left.names) (ints left.odds) (E.rows left.kids) left.line left.col) (run (pw l) l (.call (.loop n left) .ret) i) ∧
    (left.names = [] → left.odds = [] → Sim l eV (fun m k _ => l56_0_v1 m (Ak k) z z' (Int.ofNat n) (toks l) (Int.ofNat i) x3 x4 s5 x6 x7 left.k left.n (bx left.name) (E.rows left.kids) left.line left.col) (run (pw l) l (.call (.loop n left) .ret) i))
  | 0, i, hi, h, _, _, _, _, _, _, _, _, _ => by omega
  | d + 1, i, hi, h, H, left, z, z', x3, x4, s5, x6, x7 => by
    have g := hl.good
    have hop := C_oper hi n hn
    have e0 : run (pw l) l (.call (.loop n left) .ret) i = if (opsOf n).any (fun s => isT s (tk l i)) then
        run (pw l) l (.call (.level (if n = 3 then 3 else n + 1)) fun r => if n = 2 ∨ n = 3 then .ret (E.mk 7 0 (tk l i).text [] [] [left, r] (tk l i).line (tk l i).col) else .call (.loop n (E.mk 7 0 (tk l i).text [] [] [left, r] (tk l i).line (tk l i).col)) .ret) (i + 1) else .ok left i := by
      have : run (pw l) l (.call (.loop n left) .ret) i = run (pw l) l (body (.loop n left)) i := by
        rw [run_call, pw_eq g _ i hi]
        cases run (pw l) l (body (.loop n left)) i <;> rfl
      rw [this]
      exact run_any _ _ i (opsOf n)
    have go : ∀ {F : Nat → Nat → Nat → Option Out}, (opsOf n).any (fun s => isT s (tk l i)) = true →
        (i + 1 < l.length → Sim l eV F (thenR (pw l (.level (if n = 3 then 3 else n + 1)) (i + 1)) fun r j => run (pw l) l (if n = 2 ∨ n = 3 then .ret (E.mk 7 0 (tk l i).text [] [] [left, r] (tk l i).line (tk l i).col) else .call (.loop n (E.mk 7 0 (tk l i).text [] [] [left, r] (tk l i).line (tk l i).col)) .ret) j)) →
        Sim l eV F (run (pw l) l (.call (.loop n left) .ret) i) := fun {F} ha hf => by
      rw [e0, if_pos ha, run_call]
      obtain ⟨s, _, hs⟩ := List.any_eq_true.1 ha
      exact hf (nx g hi hs)
    have stop : (opsOf n).any (fun s => isT s (tk l i)) = false → ∀ {F : Nat → Nat → Nat → Option Out}, (∀ m k n', F m k n' = some ⟨true, eV left, D.junk, [rd l i], 0⟩) → Sim l eV F (run (pw l) l (.call (.loop n left) .ret) i) := fun ha {F} hf => by
      rw [e0, ha]
      exact fun _ => Ev.of hf
    have ne : (opsOf n).any (fun s => isT s (tk l i)) = true → beqL (bx (tk l i).text).data.toList (ByteArray.mk #[]).data.toList = false := fun ha => by
      obtain ⟨s, hs, ht⟩ := List.any_eq_true.1 ha
      rw [show (ByteArray.mk #[]).data.toList = [] from rfl, bx_data, beqL_eq]
      unfold isT at ht
      rw [Bool.and_eq_true, beq_iff_eq] at ht
      rw [ht.2]
      have : s ≠ [] := fun e => by
        subst e
        match n, hn with
        | 0, _ | 1, _ | 2, _ | 3, _ | 4, _ | 5, _ => simp [opsOf] at hs
      simpa using this
    have rows2 : ∀ r : E, [[D.int IntKind.i64 left.k, D.int IntKind.i64 left.n, D.str (bx left.name), D.list 1 (strs left.names), D.list 1 (ints left.odds), D.list 8 (E.rows left.kids), D.int IntKind.i64 left.line, D.int IntKind.i64 left.col],
        [D.int IntKind.i64 r.k, D.int IntKind.i64 r.n, D.str (bx r.name), D.list 1 (strs r.names), D.list 1 (ints r.odds), D.list 8 (E.rows r.kids), D.int IntKind.i64 r.line, D.int IntKind.i64 r.col]] = E.rows [left, r] := fun r => by rw [E.rows_cons, E.rows_cons, E.rows_nil]
    have b3 : (Int.ofNat n == 3) = decide (n = 3) := by
      rw [Bool.eq_iff_iff, beq_iff_eq, decide_eq_true_eq]
      simp only [Int.ofNat_eq_natCast]
      omega
    have b2 : (Int.ofNat n == 2) = decide (n = 2) := by
      rw [Bool.eq_iff_iff, beq_iff_eq, decide_eq_true_eq]
      simp only [Int.ofNat_eq_natCast]
      omega
    have fin : ∀ r j, i + 1 ≤ j → j < l.length → ∀ z z' x3 x4 s5 x6 x7 {F : Nat → Nat → Nat → Option Out},
        (∀ m k n', F m k n' = bif Int.ofNat n == 2 then some (Out.mk true (eV (E.mk 7 0 (tk l i).text [] [] [left, r] (tk l i).line (tk l i).col)) D.junk [rd l j] 0) else bif Int.ofNat n == 3 then some (Out.mk true (eV (E.mk 7 0 (tk l i).text [] [] [left, r] (tk l i).line (tk l i).col)) D.junk [rd l j] 0) else
          l56_0_v1 m (Ak k) z z' (Int.ofNat n) (toks l) (Int.ofNat j) x3 x4 s5 x6 x7 7 0 (bx (tk l i).text) (E.rows [left, r]) (tk l i).line (tk l i).col) →
        Sim l eV F (run (pw l) l (if n = 2 ∨ n = 3 then .ret (E.mk 7 0 (tk l i).text [] [] [left, r] (tk l i).line (tk l i).col) else .call (.loop n (E.mk 7 0 (tk l i).text [] [] [left, r] (tk l i).line (tk l i).col)) .ret) j) := fun r j hj hjl z z' x3 x4 s5 x6 x7 F hF => by
      refine Sim.eq ?_ hF
      rw [b2, b3]
      by_cases h2 : n = 2
      · rw [decide_eq_true h2, if_pos (.inl h2)]
        exact Sim.ret fun _ _ _ => rfl
      · rw [decide_eq_false h2]
        by_cases h3 : n = 3
        · rw [decide_eq_true h3, if_pos (.inr h3)]
          exact Sim.ret fun _ _ _ => rfl
        · rw [decide_eq_false h3, if_neg (fun q => q.elim h2 h3)]
          exact (loop_ok hl n hn d j hjl (by omega) (fun j' h1 h2 => H j' (by omega) h2) (E.mk 7 0 (tk l i).text [] [] [left, r] (tk l i).line (tk l i).col) z z' x3 x4 s5 x6 x7).2 rfl rfl
    refine ⟨?_, fun hns hos => ?_⟩
    · refine Sim.step ?_
      simp only [l56_0_eq]
      refine fun hr => v_a5ISIII_L5I (C_token hi) (v_oS_L5I hop ?_)
      cases ha : (opsOf n).any (fun s => isT s (tk l i)) with
      | false =>
        have e1 : opAt n (tk l i) = [] := by unfold opAt; rw [ha]; rfl
        refine (stop ha fun m k n' => ?_) hr
        rw [e1]
        rfl
      | true =>
        have e1 : opAt n (tk l i) = (tk l i).text := by unfold opAt; rw [ha]; rfl
        rw [e1]
        refine (go ha fun h1 => ?_) hr
        refine Sim.no (ne ha) ?_
        simp only [q56_1_eq]
        refine S_begin 7 (tk l i) ?_
        rw [up hl.len hi]
        by_cases h3 : n = 3
        · refine Sim.yes (by rw [b3, decide_eq_true h3]) ?_
          simp only [q56_2_eq]
          rw [if_pos h3]
          refine S_E ((H _ (by omega) h1).level 3 (by omega)) (fun _ _ _ _ _ _ => rfl) fun r j hj => ?_
          have hf := pw_ok g h1 hj
          refine fin r j hf.1 hf.2 z z' x3 x4 s5 x6 x7 fun m k n' => ?_
          have := rows2 r
          skip
          unfold eV
          simp only [E.k, E.n, E.name, E.names, E.odds, E.kids, E.line, E.col, q56_3_eq, ← this]
          rfl
        · refine Sim.no (by rw [b3, decide_eq_false h3]) ?_
          simp only [q56_2_eq]
          rw [if_neg h3, wrap_up n (by omega)]
          refine S_E ((H _ (by omega) h1).level (n + 1) (by omega)) (fun _ _ _ _ _ _ => rfl) fun r j hj => ?_
          have hf := pw_ok g h1 hj
          refine fin r j hf.1 hf.2 z z' x3 x4 s5 x6 x7 fun m k n' => ?_
          have := rows2 r
          skip
          unfold eV
          simp only [E.k, E.n, E.name, E.names, E.odds, E.kids, E.line, E.col, q56_3_eq, ← this]
          rfl
    · refine Sim.step ?_
      simp only [l56_0_v1_eq]
      refine fun hr => v_a5ISIII_L5I (C_token hi) (v_oS_L5I hop ?_)
      cases ha : (opsOf n).any (fun s => isT s (tk l i)) with
      | false =>
        have e1 : opAt n (tk l i) = [] := by unfold opAt; rw [ha]; rfl
        refine (stop ha fun m k n' => ?_) hr
        rw [e1]
        unfold eV
        rw [hns, hos]
        rfl
      | true =>
        have e1 : opAt n (tk l i) = (tk l i).text := by unfold opAt; rw [ha]; rfl
        rw [e1]
        refine (go ha fun h1 => ?_) hr
        refine Sim.no (ne ha) ?_
        simp only [q56_1_v1_eq]
        refine S_begin 7 (tk l i) ?_
        rw [up hl.len hi]
        by_cases h3 : n = 3
        · refine Sim.yes (by rw [b3, decide_eq_true h3]) ?_
          simp only [q56_2_v1_eq]
          rw [if_pos h3]
          refine S_E ((H _ (by omega) h1).level 3 (by omega)) (fun _ _ _ _ _ _ => rfl) fun r j hj => ?_
          have hf := pw_ok g h1 hj
          refine fin r j hf.1 hf.2 z z' x3 x4 s5 x6 x7 fun m k n' => ?_
          have := rows2 r
          rw [hns, hos] at this
          unfold eV
          simp only [E.k, E.n, E.name, E.names, E.odds, E.kids, E.line, E.col, q56_3_v1_eq, ← this]
          rfl
        · refine Sim.no (by rw [b3, decide_eq_false h3]) ?_
          simp only [q56_2_v1_eq]
          rw [if_neg h3, wrap_up n (by omega)]
          refine S_E ((H _ (by omega) h1).level (n + 1) (by omega)) (fun _ _ _ _ _ _ => rfl) fun r j hj => ?_
          have hf := pw_ok g h1 hj
          refine fin r j hf.1 hf.2 z z' x3 x4 s5 x6 x7 fun m k n' => ?_
          have := rows2 r
          rw [hns, hos] at this
          unfold eV
          simp only [E.k, E.n, E.name, E.names, E.odds, E.kids, E.line, E.col, q56_3_v1_eq, ← this]
          rfl
end
end Go.Proofs.Ytbmcafehpgimfaa.Ps
namespace Go.Proofs.Ytbmcafehpgimfaa.Ps
set_option linter.unusedVariables false
set_option linter.unusedSimpArgs false
open Go Go.RowKit Px
open Lx (Tok)
open Pm (want)

section
variable {l : List Tok} {P : (q : NT) → Nat → Rs (Ret q)}
theorem S_ret {k n : Int} {s : List UInt8} {ns : List (List UInt8)} {os : List Int} {ks : List E} {a b : Int} {rows names odds : List (List D)} {j : Nat} {F : Nat → Nat → Nat → Option Out}
    (h1 : rows = E.rows ks) (h2 : names = strs ns) (h3 : odds = ints os)
    (hF : ∀ m k' n', F m k' n' = some ⟨true, V.agg [iX k, iX n, sX s, X.d (D.list 1 names), X.d (D.list 1 odds), X.d (D.list 8 rows), iX a, iX b], D.junk, [rd l j], 0⟩) :
    Sim l eV F (run P l (.ret (E.mk k n s ns os ks a b)) j) := by
  subst h1 h2 h3
  exact Sim.ret hF
theorem S_fail {α : Type} {enc : α → V} {i : Nat} (hi : i < l.length) {K : Nat → Nat → Nat → List (List D) → Int → Option Out} {Q : Nat → Nat → Nat → D → List (List D) → Int → Option Out} (hp : PanOn Q) :
    Sim l enc (fun m k n => r_n_L5I (Ak k false 50 [V.one (X.ptr 0 0)] (rds l i)) (K m k n) (Q m k n)) (run P l .fail i) :=
  fun hr => u_n_L5I (C_fail hi) (Ev.of fun m k n => hp m k n _ _ _)
theorem E.rows_two (x y : E) : E.rows [x, y] = [[D.int IntKind.i64 x.k, D.int IntKind.i64 x.n, D.str (bx x.name), D.list 1 (strs x.names), D.list 1 (ints x.odds), D.list 8 (E.rows x.kids), D.int IntKind.i64 x.line, D.int IntKind.i64 x.col], [D.int IntKind.i64 y.k, D.int IntKind.i64 y.n, D.str (bx y.name), D.list 1 (strs y.names), D.list 1 (ints y.odds), D.list 8 (E.rows y.kids), D.int IntKind.i64 y.line, D.int IntKind.i64 y.col]] := by
  rw [E.rows_cons, E.rows_cons, E.rows_nil]
theorem E.rows_three (x y z : E) : E.rows [x, y, z] = [[D.int IntKind.i64 x.k, D.int IntKind.i64 x.n, D.str (bx x.name), D.list 1 (strs x.names), D.list 1 (ints x.odds), D.list 8 (E.rows x.kids), D.int IntKind.i64 x.line, D.int IntKind.i64 x.col], [D.int IntKind.i64 y.k, D.int IntKind.i64 y.n, D.str (bx y.name), D.list 1 (strs y.names), D.list 1 (ints y.odds), D.list 8 (E.rows y.kids), D.int IntKind.i64 y.line, D.int IntKind.i64 y.col], [D.int IntKind.i64 z.k, D.int IntKind.i64 z.n, D.str (bx z.name), D.list 1 (strs z.names), D.list 1 (ints z.odds), D.list 8 (E.rows z.kids), D.int IntKind.i64 z.line, D.int IntKind.i64 z.col]] := by
  rw [E.rows_cons, E.rows_cons, E.rows_cons, E.rows_nil]
/-! ### Names -/
theorem lets_ok (hl : Few l) (i : Nat) (hi : i < l.length) (H : After l i) (t : Tok) (ns : List (List UInt8)) (z' : List (List D)) (z3 x2 x3 : Int) (s4 : ByteArray) (x5 x6 : Int) :
    Sim l eV (fun _ k n => q24_2 (Ak k) n z' z3 (toks l) (Int.ofNat i) x2 x3 s4 x5 x6 8 0 (bx []) (strs ns) t.line t.col) (run (pw l) l (lets t ns) i) := by
  have g := hl.good
  simp only [q24_2_eq]
  unfold lets
  refine S_want hl.len hi wEq (fun _ _ _ _ _ _ => rfl) fun h => ?_
  have h1 := nx g hi h
  rw [run_call]
  refine S_E (H _ (by omega) h1).expr (fun _ _ _ _ _ _ => rfl) fun a j hj => ?_
  have hf := pw_ok g h1 hj
  refine S_want hl.len hf.2 wIn (fun _ _ _ _ _ _ => rfl) fun h2 => ?_
  have h3 := nx g hf.2 h2
  rw [run_call]
  refine S_E (H _ (by omega) h3).expr (fun _ _ _ _ _ _ => rfl) fun b j2 hj2 => ?_
  exact S_ret (E.rows_two a b).symm rfl rfl fun _ _ _ => rfl
theorem names_ok (hl : Few l) (t : Tok) (z' : List (List D)) (z3 x2 x3 : Int) (s4 : ByteArray) (x5 x6 : Int) : ∀ (d i : Nat), i < l.length → l.length - i ≤ d → After l i → ∀ acc : List (List UInt8), acc.length ≤ i →
    Sim l eV (fun m k n => l24_0 m (Ak k) n z' z3 (toks l) (Int.ofNat i) x2 x3 s4 x5 x6 8 0 (bx []) (strs acc) t.line t.col) (run (pw l) l (.call .names fun r => lets t (acc ++ r)) i)
  | 0, i, hi, h, _, _, _ => by omega
  | d + 1, i, hi, h, H, acc, ha => by
    have g := hl.good
    rw [run_open g _ _ i hi]
    refine Sim.step ?_
    simp only [l24_0_eq]
    refine S_take hl.len hi wCm (fun h => Sim.yes rfl ?_) (fun h => Sim.no rfl ?_)
    · have h1 := nx g hi h
      simp only [q24_0_eq]
      refine S_kind hl.len h1 1 (fun _ _ _ _ _ _ => rfl) fun h2 => ?_
      have h3 := nxk g h1 h2 (by decide)
      refine Sim.yes (by rw [strs_len]; exact roomy _ _ (by have := hl.len; omega) (by omega)) ?_
      rw [← strs_app]
      have := names_ok hl t z' z3 x2 x3 s4 x5 x6 d (i + 1 + 1) h3 (by omega) (fun j' h1 h2 => H j' (by omega) h2) (acc ++ [(tk l (i + 1)).text]) (by rw [List.length_append, List.length_singleton]; omega)
      simp only [List.append_assoc, List.singleton_append] at this
      exact this
    · simp only [q24_1_eq]
      refine S_want hl.len hi wRp (fun _ _ _ _ _ _ => rfl) fun h2 => ?_
      have h3 := nx g hi h2
      show Sim l eV _ (run (pw l) l (lets t (acc ++ [])) (i + 1))
      rw [List.append_nil]
      exact lets_ok hl (i + 1) h3 (fun j' h1 h2 => H j' (by omega) h2) t acc z' z3 x2 x3 s4 x5 x6

/-! ### Choices -/
theorem case_ok (hl : Few l) (i : Nat) (hi : i < l.length) (H : After l i) (t : Tok) (x : E) (z' : List (List D)) (z3 x2 x3 : Int) (s4 : ByteArray) (x5 x6 : Int) :
    Sim l eV (fun m k n => l24_1 m (Ak k) n z' z3 (strs [wOf, wLb, wRb, wAr]) 4 0 (toks l) (Int.ofNat i) x2 x3 s4 x5 x6 10 0 (bx []) (E.rows [x]) t.line t.col) (run (pw l) l (want wOf (want wLb (want wRb (want wAr (caseK2 t x))))) i) := by
  have g := hl.good
  refine Sim.step ?_
  simp only [l24_1_eq, q24_3_eq, q24_4_eq]
  refine Sim.yes rfl (Sim.yes rfl ?_)
  refine S_want hl.len hi wOf (fun _ _ _ _ _ _ => rfl) fun h => ?_
  have h1 := nx g hi h
  refine Sim.step ?_
  simp only [l24_1_eq, q24_3_eq, q24_4_eq]
  refine Sim.yes rfl (Sim.yes rfl ?_)
  refine S_want hl.len h1 wLb (fun _ _ _ _ _ _ => rfl) fun h => ?_
  have h2 := nx g h1 h
  refine Sim.step ?_
  simp only [l24_1_eq, q24_3_eq, q24_4_eq]
  refine Sim.yes rfl (Sim.yes rfl ?_)
  refine S_want hl.len h2 wRb (fun _ _ _ _ _ _ => rfl) fun h => ?_
  have h3 := nx g h2 h
  refine Sim.step ?_
  simp only [l24_1_eq, q24_3_eq, q24_4_eq]
  refine Sim.yes rfl (Sim.yes rfl ?_)
  refine S_want hl.len h3 wAr (fun _ _ _ _ _ _ => rfl) fun h => ?_
  have h4 := nx g h3 h
  refine Sim.step ?_
  simp only [l24_1_eq, q24_5_eq]
  refine Sim.no rfl ?_
  refine Eq.subst (motive := fun r => Sim l eV _ r) (run_call _ _ _).symm ?_
  refine S_E (H _ (by omega) h4).expr (fun _ _ _ _ _ _ => rfl) fun a j hj => ?_
  have hf := pw_ok g h4 hj
  refine Sim.yes (by rw [E.rows_len]; rfl) ?_
  refine S_want hl.len hf.2 wBar (fun _ _ _ _ _ _ => rfl) fun h => ?_
  have h5 := nx g hf.2 h
  refine S_kind hl.len h5 1 (fun _ _ _ _ _ _ => rfl) fun h => ?_
  have h6 := nxk g h5 h (by decide)
  refine S_want hl.len h6 wCc (fun _ _ _ _ _ _ => rfl) fun h => ?_
  have h7 := nx g h6 h
  refine S_kind hl.len h7 1 (fun _ _ _ _ _ _ => rfl) fun h => ?_
  have h8 := nxk g h7 h (by decide)
  refine S_want hl.len h8 wAr (fun _ _ _ _ _ _ => rfl) fun h => ?_
  have h9 := nx g h8 h
  refine Eq.subst (motive := fun r => Sim l eV _ r) (run_call _ _ _).symm ?_
  refine S_E (H _ (by omega) h9).expr (fun _ _ _ _ _ _ => rfl) fun b j2 hj2 => ?_
  refine Sim.yes (by rw [List.length_append, E.rows_len]; rfl) ?_
  refine S_ret ?_ rfl rfl fun _ _ _ => rfl
  rw [← E.rows_app, ← E.rows_app]
  rfl

/-! ### An expression -/
theorem expr_ok (hl : Few l) (i : Nat) (hi : i < l.length) (H : After l i) (h0 : Sim l eV (fun _ k _ => Ak k false 56 [V.one (X.ptr 0 0), V.one (X.d (D.int IntKind.i64 0))] (rds l i)) (pw l (.level 0) i)) :
    Sim l eV (fun _ k _ => Ak k false 24 [V.one (X.ptr 0 0)] (rds l i)) (pw l .expr i) := by
  have g := hl.good
  rw [pw_eq g _ i hi]
  refine fun hr => call24 _ _ ((?_ : Sim l eV (fun _ k n => e24 (Ak k) n (toks l) (Int.ofNat i)) (run (pw l) l (body .expr) i)) hr)
  clear hr
  simp only [e24_eq]
  refine S_token hi ?_
  refine S_take hl.len hi wLet (fun h => Sim.yes rfl ?_) (fun h => Sim.no rfl ?_)
  · have h1 := nx g hi h
    refine S_begin 8 (tk l i) ?_
    refine S_take hl.len h1 wLp (fun h => Sim.yes rfl ?_) (fun h => Sim.no rfl ?_)
    · have h2 := nx g h1 h
      refine S_kind hl.len h2 1 (fun _ _ _ _ _ _ => rfl) fun h => ?_
      have h3 := nxk g h2 h (by decide)
      refine S_want hl.len h3 wCm (fun _ _ _ _ _ _ => rfl) fun h => ?_
      have h4 := nx g h3 h
      refine S_kind hl.len h4 1 (fun _ _ _ _ _ _ => rfl) fun h => ?_
      have h5 := nxk g h4 h (by decide)
      exact Sim.diag (names_ok hl (tk l i) _ _ _ _ _ _ _ _ _ h5 (Nat.le_refl _) (fun j' h1 h2 => H j' (by omega) h2) [(tk l (i + 1 + 1)).text, (tk l (i + 1 + 1 + 1 + 1)).text] (by simp only [List.length_cons, List.length_nil]; omega))
    · refine S_kind hl.len h1 1 (fun _ _ _ _ _ _ => rfl) fun h => ?_
      have h3 := nxk g h1 h (by decide)
      exact lets_ok hl _ h3 (fun j' h1 h2 => H j' (by omega) h2) (tk l i) [(tk l (i + 1)).text] _ _ _ _ _ _ _
  refine S_take hl.len hi wIf (fun h => Sim.yes rfl ?_) (fun h => Sim.no rfl ?_)
  · have h1 := nx g hi h
    refine S_begin 9 (tk l i) ?_
    refine Eq.subst (motive := fun r => Sim l eV _ r) (run_call _ _ _).symm ?_
    refine S_E (H _ (by omega) h1).expr (fun _ _ _ _ _ _ => rfl) fun a j hj => ?_
    have hf := pw_ok g h1 hj
    refine S_want hl.len hf.2 wThen (fun _ _ _ _ _ _ => rfl) fun h => ?_
    have h2 := nx g hf.2 h
    refine Eq.subst (motive := fun r => Sim l eV _ r) (run_call _ _ _).symm ?_
    refine S_E (H _ (by omega) h2).expr (fun _ _ _ _ _ _ => rfl) fun b j2 hj2 => ?_
    have hf2 := pw_ok g h2 hj2
    refine S_want hl.len hf2.2 wElse (fun _ _ _ _ _ _ => rfl) fun h => ?_
    have h3 := nx g hf2.2 h
    refine Eq.subst (motive := fun r => Sim l eV _ r) (run_call _ _ _).symm ?_
    refine S_E (H _ (by omega) h3).expr (fun _ _ _ _ _ _ => rfl) fun c j3 hj3 => ?_
    exact S_ret (E.rows_three a b c).symm rfl rfl fun _ _ _ => rfl
  refine S_take hl.len hi wCase (fun h => Sim.yes rfl ?_) (fun h => Sim.no rfl ?_)
  · have h1 := nx g hi h
    refine S_begin 10 (tk l i) ?_
    refine Eq.subst (motive := fun r => Sim l eV _ r) (run_call _ _ _).symm ?_
    refine S_E (H _ (by omega) h1).expr (fun _ _ _ _ _ _ => rfl) fun a j hj => ?_
    have hf := pw_ok g h1 hj
    rw [← E.rows_one]
    exact Sim.diag (case_ok hl j hf.2 (fun j' h1 h2 => H j' (by omega) h2) (tk l i) a _ _ _ _ _ _ _)
  refine S_take hl.len hi wObserve (fun h => Sim.yes rfl ?_) (fun h => Sim.no rfl ?_)
  · have h1 := nx g hi h
    refine S_begin 11 (tk l i) ?_
    refine Eq.subst (motive := fun r => Sim l eV _ r) (run_call _ _ _).symm ?_
    refine S_E (H _ (by omega) h1).expr (fun _ _ _ _ _ _ => rfl) fun a j hj => ?_
    have hf := pw_ok g h1 hj
    refine S_want hl.len hf.2 wIn (fun _ _ _ _ _ _ => rfl) fun h => ?_
    have h2 := nx g hf.2 h
    refine Eq.subst (motive := fun r => Sim l eV _ r) (run_call _ _ _).symm ?_
    refine S_E (H _ (by omega) h2).expr (fun _ _ _ _ _ _ => rfl) fun b j2 hj2 => ?_
    exact S_ret (E.rows_two a b).symm rfl rfl fun _ _ _ => rfl
  refine S_take hl.len hi wScore (fun h => Sim.yes rfl ?_) (fun h => Sim.no rfl ?_)
  · have h1 := nx g hi h
    refine S_begin 12 (tk l i) ?_
    refine Eq.subst (motive := fun r => Sim l eV _ r) (run_call _ _ _).symm ?_
    refine S_O (share_ok hl _ h1) (fun _ _ _ _ _ _ => rfl) fun a j hj => ?_
    have hf := pw_ok g h1 hj
    refine S_want hl.len hf.2 wIn (fun _ _ _ _ _ _ => rfl) fun h => ?_
    have h2 := nx g hf.2 h
    refine Eq.subst (motive := fun r => Sim l eV _ r) (run_call _ _ _).symm ?_
    refine S_E (H _ (by omega) h2).expr (fun _ _ _ _ _ _ => rfl) fun b j2 hj2 => ?_
    exact S_ret (E.rows_one b).symm rfl rfl fun _ _ _ => rfl
  simp only [q24_6_eq]
  refine Eq.subst (motive := fun r => Sim l eV _ r) (run_call _ _ _).symm ?_
  exact S_E h0 (fun _ _ _ _ _ _ => rfl) fun a j hj => Sim.ret fun _ _ _ => rfl

/-! ### The signs ahead, and the levels -/
theorem unary_ok (hl : Few l) (i : Nat) (hi : i < l.length) (H : After l i) (h0 : Sim l eV (fun _ k _ => Ak k false 94 [V.one (X.ptr 0 0)] (rds l i)) (pw l .atom i)) :
    Sim l eV (fun _ k _ => Ak k false 81 [V.one (X.ptr 0 0)] (rds l i)) (pw l .unary i) := by
  have g := hl.good
  rw [pw_eq g _ i hi]
  refine fun hr => call81 _ _ ((?_ : Sim l eV (fun _ k n => e81 (Ak k) n (toks l) (Int.ofNat i)) (run (pw l) l (body .unary) i)) hr)
  clear hr
  simp only [e81_eq, q81_0_eq]
  refine S_token hi ?_
  refine S_take hl.len hi wNot (fun h => Sim.yes rfl ?_) (fun h => Sim.no rfl ?_)
  · have h1 := nx g hi h
    refine S_begin 7 (tk l i) ?_
    refine Eq.subst (motive := fun r => Sim l eV _ r) (run_call _ _ _).symm ?_
    refine S_E (H _ (by omega) h1).unary (fun _ _ _ _ _ _ => rfl) fun a j hj => ?_
    exact S_ret (E.rows_one a).symm rfl rfl fun _ _ _ => rfl
  refine S_take hl.len hi wMi (fun h => Sim.yes rfl ?_) (fun h => Sim.no rfl ?_)
  · have h1 := nx g hi h
    refine S_begin 7 (tk l i) ?_
    refine Eq.subst (motive := fun r => Sim l eV _ r) (run_call _ _ _).symm ?_
    refine S_E (H _ (by omega) h1).unary (fun _ _ _ _ _ _ => rfl) fun a j hj => ?_
    exact S_ret (E.rows_one a).symm rfl rfl fun _ _ _ => rfl
  refine Eq.subst (motive := fun r => Sim l eV _ r) (run_call _ _ _).symm ?_
  exact S_E h0 (fun _ _ _ _ _ _ => rfl) fun a j hj => Sim.ret fun _ _ _ => rfl
theorem body_level (n : Nat) (hn : n ≤ 5) : body (.level n) = .call (.level (n + 1)) fun l => .call (.loop n l) .ret := by
  match n, hn with
  | 0, _ | 1, _ | 2, _ | 3, _ | 4, _ | 5, _ => rfl
theorem level_ok (hl : Few l) (n : Nat) (hn : n ≤ 5) (i : Nat) (hi : i < l.length) (H : After l i)
    (h0 : Sim l eV (fun _ k _ => Ak k false 56 [V.one (X.ptr 0 0), V.one (X.d (D.int IntKind.i64 (Int.ofNat (n + 1))))] (rds l i)) (pw l (.level (n + 1)) i)) :
    Sim l eV (fun _ k _ => Ak k false 56 [V.one (X.ptr 0 0), V.one (X.d (D.int IntKind.i64 (Int.ofNat n)))] (rds l i)) (pw l (.level n) i) := by
  have g := hl.good
  rw [pw_eq g _ i hi, body_level n hn]
  refine fun hr => call56 _ _ _ ((?_ : Sim l eV (fun _ k n' => e56 (Ak k) n' (Int.ofNat n) (toks l) (Int.ofNat i)) (run (pw l) l (.call (.level (n + 1)) fun l => .call (.loop n l) .ret) i)) hr)
  clear hr
  simp only [e56_eq, q56_0_eq]
  refine Sim.no (by rw [beq_eq_false_iff_ne]; simp only [Int.ofNat_eq_natCast]; omega) ?_
  rw [wrap_up n (by omega)]
  refine Eq.subst (motive := fun r => Sim l eV _ r) (run_call _ _ _).symm ?_
  refine S_E h0 (fun _ _ _ _ _ _ => rfl) fun a j hj => ?_
  have hf := pw_ok g hi hj
  exact Sim.diag (loop_ok hl n hn _ j hf.2 (Nat.le_refl _) (fun j' h1 h2 => H j' (by omega) h2) a _ _ _ _ _ _ _).1
theorem level6_ok (hl : Few l) (i : Nat) (hi : i < l.length)
    (h0 : Sim l eV (fun _ k _ => Ak k false 81 [V.one (X.ptr 0 0)] (rds l i)) (pw l .unary i)) :
    Sim l eV (fun _ k _ => Ak k false 56 [V.one (X.ptr 0 0), V.one (X.d (D.int IntKind.i64 (Int.ofNat 6)))] (rds l i)) (pw l (.level 6) i) := by
  have g := hl.good
  rw [pw_eq g _ i hi]
  refine fun hr => call56 _ _ _ ((?_ : Sim l eV (fun _ k n' => e56 (Ak k) n' (Int.ofNat 6) (toks l) (Int.ofNat i)) (run (pw l) l (.call .unary .ret) i)) hr)
  clear hr
  simp only [e56_eq]
  refine Sim.yes rfl ?_
  refine Eq.subst (motive := fun r => Sim l eV _ r) (run_call _ _ _).symm ?_
  exact S_E h0 (fun _ _ _ _ _ _ => rfl) fun a j hj => Sim.ret fun _ _ _ => rfl
end
end Go.Proofs.Ytbmcafehpgimfaa.Ps
namespace Go.Proofs.Ytbmcafehpgimfaa.Ps
set_option linter.unusedVariables false
set_option linter.unusedSimpArgs false
open Go Go.RowKit Px
open Lx (Tok)

section
variable {l : List Tok} {P : (q : NT) → Nat → Rs (Ret q)}
theorem S_knd {α : Type} {enc : α → V} (κ : Int) {i : Nat} {F G : Nat → Nat → Nat → Option Out} {y n : Pm α} (hy : (tk l i).kind = κ → Sim l enc F (run P l y i)) (hn : (tk l i).kind ≠ κ → Sim l enc G (run P l n i)) :
    Sim l enc (fun m k n' => bif (tk l i).kind == κ then F m k n' else G m k n') (run P l (.knd κ y n) i) := by
  unfold run
  cases h : (tk l i).kind == κ with
  | true => exact hy (by simpa using h)
  | false => exact hn (by simpa using h)
theorem ints_one (a : Int) : ints [a] = [[D.int IntKind.i64 a]] := rfl
theorem ints_app (a : List Int) (b : Int) : ints (a ++ [b]) = ints a ++ [[D.int IntKind.i64 b]] := by unfold ints; rw [List.map_append]; rfl
theorem ints_len (a : List Int) : (ints a).length = a.length := List.length_map ..
/-! ### The tuple's rest -/
theorem tuple_ok (hl : Few l) (t : Tok) (z' : List (List D)) (z3 x2 x3 : Int) (s4 : ByteArray) (x5 x6 : Int) : ∀ (d i : Nat), i < l.length → l.length - i ≤ d → After l i → ∀ acc : List E, acc.length ≤ i →
    Sim l eV (fun m k n => l94_0 m (Ak k) n z' z3 (toks l) (Int.ofNat i) x2 x3 s4 x5 x6 5 0 (bx []) (E.rows acc) t.line t.col) (run (pw l) l (.call (.rest wRp) fun r => .ret (E.mk 5 0 [] [] [] (acc ++ r) t.line t.col)) i)
  | 0, i, hi, h, _, _, _ => by omega
  | d + 1, i, hi, h, H, acc, ha => by
    have g := hl.good
    rw [run_open g _ _ i hi]
    refine Sim.step ?_
    simp only [l94_0_eq]
    refine S_take hl.len hi wCm (fun h => Sim.yes rfl ?_) (fun h => Sim.no rfl ?_)
    · have h1 := nx g hi h
      simp only [q94_2_eq]
      refine Eq.subst (motive := fun r => Sim l eV _ r) (run_call _ _ _).symm ?_
      refine S_E (H _ (by omega) h1).expr (fun _ _ _ _ _ _ => rfl) fun a j hj => ?_
      have hf := pw_ok g h1 hj
      refine Sim.yes (by rw [E.rows_len]; exact roomy _ _ (by have := hl.len; omega) (by omega)) ?_
      rw [← E.rows_app]
      have := tuple_ok hl t z' z3 x2 x3 s4 x5 x6 d j hf.2 (by omega) (fun j' h1 h2 => H j' (by omega) h2) (acc ++ [a]) (by rw [List.length_append, List.length_singleton]; omega)
      simp only [List.append_assoc, List.singleton_append] at this
      exact this
    · simp only [q94_3_eq]
      refine S_want hl.len hi wRp (fun _ _ _ _ _ _ => rfl) fun h2 => ?_
      exact S_ret (by rw [List.append_nil]) rfl rfl fun _ _ _ => rfl
/-! ### The choices of a pick -/
theorem picks_ok (hl : Few l) (t : Tok) (z' : List (List D)) (z3 x2 x3 : Int) (s4 : ByteArray) (x5 x6 : Int) : ∀ (d i : Nat), i < l.length → l.length - i ≤ d → After l i → ∀ (os : List Int) (acc : List E), acc.length ≤ i → os.length ≤ i →
    Sim l eV (fun m k n => l94_1_v1 m (Ak k) n z' z3 (toks l) (Int.ofNat i) x2 x3 s4 x5 x6 13 0 (bx []) (ints os) (E.rows acc) t.line t.col) (run (pw l) l (.call .pick fun p => .ret (E.mk 13 0 [] [] (os ++ p.1) (acc ++ p.2) t.line t.col)) i)
  | 0, i, hi, h, _, _, _, _, _ => by omega
  | d + 1, i, hi, h, H, os, acc, ha, ho => by
    have g := hl.good
    rw [run_open g _ _ i hi]
    refine Sim.step ?_
    simp only [l94_1_v1_eq]
    refine S_kind hl.len hi 3 (fun _ _ _ _ _ _ => rfl) fun h1 => ?_
    have h2 := nxk g hi h1 (by decide)
    refine Sim.yes (by rw [ints_len]; exact roomy _ _ (by have := hl.len; omega) (by omega)) ?_
    refine S_want hl.len h2 wCl (fun _ _ _ _ _ _ => rfl) fun h3 => ?_
    have h4 := nx g h2 h3
    refine Eq.subst (motive := fun r => Sim l eV _ r) (run_call _ _ _).symm ?_
    refine S_E (H _ (by omega) h4).expr (fun _ _ _ _ _ _ => rfl) fun a j hj => ?_
    have hf := pw_ok g h4 hj
    refine Sim.yes (by rw [E.rows_len]; exact roomy _ _ (by have := hl.len; omega) (by omega)) ?_
    refine S_take hl.len hf.2 wCm (fun h => Sim.no rfl ?_) (fun h => Sim.yes rfl ?_)
    · have h5 := nx g hf.2 h
      rw [← E.rows_app, ← ints_app]
      have := picks_ok hl t z' z3 x2 x3 s4 x5 x6 d (j + 1) h5 (by omega) (fun j' h1 h2 => H j' (by omega) h2) (os ++ [(tk l i).n]) (acc ++ [a]) (by rw [List.length_append, List.length_singleton]; omega) (by rw [List.length_append, List.length_singleton]; omega)
      simp only [List.append_assoc, List.singleton_append] at this
      exact this
    · refine S_want hl.len hf.2 wRc (fun _ _ _ _ _ _ => rfl) fun h2 => ?_
      exact S_ret (E.rows_app acc a).symm rfl (ints_app os _).symm fun _ _ _ => rfl
theorem pick_ok (hl : Few l) (t : Tok) (z' : List (List D)) (z3 x2 x3 : Int) (s4 : ByteArray) (x5 x6 : Int) (i : Nat) (hi : i < l.length) (H : After l i) :
    Sim l eV (fun m k n => l94_1 m (Ak k) n z' z3 (toks l) (Int.ofNat i) x2 x3 s4 x5 x6 13 0 (bx []) t.line t.col) (run (pw l) l (.call .pick fun p => .ret (E.mk 13 0 [] [] p.1 p.2 t.line t.col)) i) := by
  have g := hl.good
  rw [run_open g _ _ i hi]
  refine Sim.step ?_
  simp only [l94_1_eq]
  refine S_kind hl.len hi 3 (fun _ _ _ _ _ _ => rfl) fun h1 => ?_
  have h2 := nxk g hi h1 (by decide)
  refine S_want hl.len h2 wCl (fun _ _ _ _ _ _ => rfl) fun h3 => ?_
  have h4 := nx g h2 h3
  refine Eq.subst (motive := fun r => Sim l eV _ r) (run_call _ _ _).symm ?_
  refine S_E (H _ (by omega) h4).expr (fun _ _ _ _ _ _ => rfl) fun a j hj => ?_
  have hf := pw_ok g h4 hj
  refine S_take hl.len hf.2 wCm (fun h => Sim.no rfl ?_) (fun h => Sim.yes rfl ?_)
  · have h5 := nx g hf.2 h
    rw [← E.rows_one, ← ints_one]
    exact picks_ok hl t z' z3 x2 x3 s4 x5 x6 _ (j + 1) h5 (Nat.le_refl _) (fun j' h1 h2 => H j' (by omega) h2) [(tk l i).n] [a] (by simp only [List.length_cons, List.length_nil]; omega) (by simp only [List.length_cons, List.length_nil]; omega)
  · refine S_want hl.len hf.2 wRc (fun _ _ _ _ _ _ => rfl) fun h2 => ?_
    exact S_ret (E.rows_one a).symm rfl rfl fun _ _ _ => rfl
/-! ### An atom -/
theorem atom_ok (hl : Few l) (hn : Nums l) (i : Nat) (hi : i < l.length) (H : After l i) :
    Sim l eV (fun _ k _ => Ak k false 94 [V.one (X.ptr 0 0)] (rds l i)) (pw l .atom i) := by
  have g := hl.good
  rw [pw_eq g _ i hi]
  refine fun hr => call94 _ _ ((?_ : Sim l eV (fun _ k n => e94 (Ak k) n (toks l) (Int.ofNat i)) (run (pw l) l (body .atom) i)) hr)
  clear hr
  simp only [e94_eq]
  refine S_token hi ?_
  refine S_knd 3 (fun h => ?_) (fun h => ?_)
  · have h1 := nxk g hi h (by decide)
    refine S_begin 1 (tk l i) ?_
    rw [up hl.len hi]
    exact S_ret (P := pw l) E.rows_nil.symm rfl rfl fun _ _ _ => rfl
  refine S_knd 1 (fun h => ?_) (fun h => ?_)
  · have h1 := nxk g hi h (by decide)
    refine S_begin 3 (tk l i) ?_
    rw [up hl.len hi]
    refine S_take hl.len h1 wLp (fun h => Sim.yes rfl ?_) (fun h => Sim.no rfl ?_)
    · have h2 := nx g h1 h
      refine Eq.subst (motive := fun r => Sim l eV _ r) (run_call _ _ _).symm ?_
      refine S_L ((H _ (by omega) h2).list wRp) (fun _ _ _ _ _ _ => rfl) fun a j hj => ?_
      simp only [q94_0_eq]
      exact S_ret (P := pw l) rfl rfl rfl fun _ _ _ => rfl
    · simp only [q94_0_v1_eq]
      exact S_ret (P := pw l) E.rows_nil.symm rfl rfl fun _ _ _ => rfl
  refine S_take hl.len hi wTrue (fun h => Sim.yes rfl ?_) (fun h => Sim.no rfl ?_)
  · refine S_begin 2 (tk l i) ?_
    exact S_ret (P := pw l) E.rows_nil.symm rfl rfl fun _ _ _ => rfl
  refine S_take hl.len hi wFalse (fun h => Sim.yes rfl ?_) (fun h => Sim.no rfl ?_)
  · refine S_begin 2 (tk l i) ?_
    exact S_ret (P := pw l) E.rows_nil.symm rfl rfl fun _ _ _ => rfl
  refine S_take hl.len hi wLp (fun h => Sim.yes rfl ?_) (fun h => Sim.no rfl ?_)
  · have h1 := nx g hi h
    refine Eq.subst (motive := fun r => Sim l eV _ r) (run_call _ _ _).symm ?_
    refine S_E (H _ (by omega) h1).expr (fun _ _ _ _ _ _ => rfl) fun a j hj => ?_
    have hf := pw_ok g h1 hj
    refine S_take hl.len hf.2 wRp (fun h => Sim.yes rfl ?_) (fun h => Sim.no rfl ?_)
    · exact Sim.ret fun _ _ _ => rfl
    simp only [q94_1_eq]
    refine S_begin 5 (tk l i) ?_
    refine S_want hl.len hf.2 wCm (fun _ _ _ _ _ _ => rfl) fun h => ?_
    have h2 := nx g hf.2 h
    refine Eq.subst (motive := fun r => Sim l eV _ r) (run_call _ _ _).symm ?_
    refine S_E (H _ (by omega) h2).expr (fun _ _ _ _ _ _ => rfl) fun b j2 hj2 => ?_
    have hf2 := pw_ok g h2 hj2
    rw [← E.rows_two]
    exact Sim.diag (tuple_ok hl (tk l i) _ _ _ _ _ _ _ _ j2 hf2.2 (Nat.le_refl _) (fun j' h1 h2 => H j' (by omega) h2) [a, b] (by simp only [List.length_cons, List.length_nil]; omega))
  refine S_take hl.len hi wLb (fun h => Sim.yes rfl ?_) (fun h => Sim.no rfl ?_)
  · have h1 := nx g hi h
    refine S_begin 6 (tk l i) ?_
    refine Eq.subst (motive := fun r => Sim l eV _ r) (run_call _ _ _).symm ?_
    refine S_L ((H _ (by omega) h1).list wRb) (fun _ _ _ _ _ _ => rfl) fun a j hj => ?_
    exact S_ret (P := pw l) rfl rfl rfl fun _ _ _ => rfl
  refine S_take hl.len hi wPick (fun h => Sim.yes rfl ?_) (fun h => Sim.no rfl ?_)
  · have h1 := nx g hi h
    refine S_begin 13 (tk l i) ?_
    refine S_want hl.len h1 wLc (fun _ _ _ _ _ _ => rfl) fun h => ?_
    have h2 := nx g h1 h
    exact Sim.diag (pick_ok hl (tk l i) _ _ _ _ _ _ _ _ h2 (fun j' h1 h2 => H j' (by omega) h2))
  refine S_take hl.len hi wFlip (fun h => Sim.yes rfl ?_) (fun h => Sim.no rfl ?_)
  · have h1 := nx g hi h
    refine S_begin 14 (tk l i) ?_
    refine S_want hl.len h1 wLp (fun _ _ _ _ _ _ => rfl) fun h => ?_
    have h2 := nx g h1 h
    refine Eq.subst (motive := fun r => Sim l eV _ r) (run_call _ _ _).symm ?_
    refine S_O (share_ok hl _ h2) (fun _ _ _ _ _ _ => rfl) fun a j hj => ?_
    have hf := pw_ok g h2 hj
    refine S_want hl.len hf.2 wRp (fun _ _ _ _ _ _ => rfl) fun h => ?_
    exact S_ret (P := pw l) E.rows_nil.symm rfl rfl fun _ _ _ => rfl
  refine S_take hl.len hi wRange (fun h => Sim.yes rfl ?_) (fun h => Sim.no rfl ?_)
  · have h1 := nx g hi h
    refine S_begin 15 (tk l i) ?_
    refine S_want hl.len h1 wLp (fun _ _ _ _ _ _ => rfl) fun h => ?_
    have h2 := nx g h1 h
    refine Eq.subst (motive := fun r => Sim l eV _ r) (run_call _ _ _).symm ?_
    refine S_I (bound_ok hl hn _ h2) (fun _ _ _ _ _ _ => rfl) fun a j hj => ?_
    have hf := pw_ok g h2 hj
    refine S_want hl.len hf.2 wCm (fun _ _ _ _ _ _ => rfl) fun h => ?_
    have h3 := nx g hf.2 h
    refine Eq.subst (motive := fun r => Sim l eV _ r) (run_call _ _ _).symm ?_
    refine S_I (bound_ok hl hn _ h3) (fun _ _ _ _ _ _ => rfl) fun b j2 hj2 => ?_
    have hf2 := pw_ok g h3 hj2
    refine S_want hl.len hf2.2 wRp (fun _ _ _ _ _ _ => rfl) fun h => ?_
    exact S_ret (P := pw l) E.rows_nil.symm rfl rfl fun _ _ _ => rfl
  simp only [q94_4_eq]
  exact S_fail hi fun _ _ _ _ _ _ => rfl
/-! ### All of them -/
theorem all_ok (hl : Few l) (hn : Nums l) : ∀ (d i : Nat), i < l.length → l.length - i ≤ d → AllAt l i
  | 0, i, hi, h => by omega
  | d + 1, i, hi, h => by
    have H : After l i := fun j h1 h2 => all_ok hl hn d j h2 (by omega)
    have ha := atom_ok hl hn i hi H
    have hu := unary_ok hl i hi H ha
    have h6 := level6_ok hl i hi hu
    have h5 := level_ok hl 5 (by decide) i hi H h6
    have h4 := level_ok hl 4 (by decide) i hi H h5
    have h3 := level_ok hl 3 (by decide) i hi H h4
    have h2 := level_ok hl 2 (by decide) i hi H h3
    have h1 := level_ok hl 1 (by decide) i hi H h2
    have h0 := level_ok hl 0 (by decide) i hi H h1
    have he := expr_ok hl i hi H h0
    refine ⟨he, fun n hn => ?_, hu, ha, fun e => list_ok hl e i hi H he fun a j hj => pw_eat (q := .expr) trivial hj⟩
    match n, hn with
    | 0, _ => exact h0
    | 1, _ => exact h1
    | 2, _ => exact h2
    | 3, _ => exact h3
    | 4, _ => exact h4
    | 5, _ => exact h5
    | 6, _ => exact h6
theorem exprs_ok (hl : Few l) (hn : Nums l) (i : Nat) (hi : i < l.length) : Sim l eV (fun _ k _ => Ak k false 24 [V.one (X.ptr 0 0)] (rds l i)) (pw l .expr i) := (all_ok hl hn _ i hi (Nat.le_refl _)).expr
end
end Go.Proofs.Ytbmcafehpgimfaa.Ps
namespace Go.Proofs.Ytbmcafehpgimfaa.Ps
set_option linter.unusedVariables false
set_option linter.unusedSimpArgs false
open Go Go.RowKit Px
open Lx (Tok)
open Pm (want kind)

def fnV (f : Fnc) : V := V.agg [X.d (D.str (bx f.name)), X.d (D.list 5 (Fld.rows f.params)), X.d (D.int IntKind.i64 f.res.k), X.d (D.list 2 (T.rows f.res.l)), X.d (D.int IntKind.i64 f.body.k), X.d (D.int IntKind.i64 f.body.n), X.d (D.str (bx f.body.name)), X.d (D.list 1 (strs f.body.names)), X.d (D.list 1 (ints f.body.odds)), X.d (D.list 8 (E.rows f.body.kids)), X.d (D.int IntKind.i64 f.body.line), X.d (D.int IntKind.i64 f.body.col), X.d (D.int IntKind.i64 f.line), X.d (D.int IntKind.i64 f.col)]
def pX (p : Pg) : List X := [X.d (D.list 5 (Fld.rows p.inputs)), X.d (D.list 14 (Fnc.rows p.funs)), X.d (D.int IntKind.i64 p.query.k), X.d (D.int IntKind.i64 p.query.n), X.d (D.str (bx p.query.name)), X.d (D.list 1 (strs p.query.names)), X.d (D.list 1 (ints p.query.odds)), X.d (D.list 8 (E.rows p.query.kids)), X.d (D.int IntKind.i64 p.query.line), X.d (D.int IntKind.i64 p.query.col)]
def pV (p : Pg) : V := V.agg (pX p)
theorem Fld.rows_app (a : List Fld) (b : Fld) : Fld.rows (a ++ [b]) = Fld.rows a ++ [[D.str (bx b.name), D.int IntKind.i64 b.typ.k, D.list 2 (T.rows b.typ.l), D.int IntKind.i64 b.line, D.int IntKind.i64 b.col]] := by
  unfold Fld.rows; rw [List.map_append]; rfl
theorem Fld.rows_len (a : List Fld) : (Fld.rows a).length = a.length := List.length_map ..
theorem Fld.rows_one (b : Fld) : Fld.rows [b] = [[D.str (bx b.name), D.int IntKind.i64 b.typ.k, D.list 2 (T.rows b.typ.l), D.int IntKind.i64 b.line, D.int IntKind.i64 b.col]] := rfl
theorem Fnc.row_eq (f : Fnc) : Fnc.row f = [D.str (bx f.name), D.list 5 (Fld.rows f.params), D.int IntKind.i64 f.res.k, D.list 2 (T.rows f.res.l), D.int IntKind.i64 f.body.k, D.int IntKind.i64 f.body.n, D.str (bx f.body.name), D.list 1 (strs f.body.names), D.list 1 (ints f.body.odds), D.list 8 (E.rows f.body.kids), D.int IntKind.i64 f.body.line, D.int IntKind.i64 f.body.col, D.int IntKind.i64 f.line, D.int IntKind.i64 f.col] := by
  unfold Fnc.row; rw [E.row_eq]; rfl
theorem Fnc.rows_app (a : List Fnc) (f : Fnc) : Fnc.rows (a ++ [f]) = Fnc.rows a ++ [[D.str (bx f.name), D.list 5 (Fld.rows f.params), D.int IntKind.i64 f.res.k, D.list 2 (T.rows f.res.l), D.int IntKind.i64 f.body.k, D.int IntKind.i64 f.body.n, D.str (bx f.body.name), D.list 1 (strs f.body.names), D.list 1 (ints f.body.odds), D.list 8 (E.rows f.body.kids), D.int IntKind.i64 f.body.line, D.int IntKind.i64 f.body.col, D.int IntKind.i64 f.line, D.int IntKind.i64 f.col]] := by
  unfold Fnc.rows; rw [List.map_append, List.map_singleton, Fnc.row_eq]
theorem Fnc.rows_len (a : List Fnc) : (Fnc.rows a).length = a.length := List.length_map ..
section
variable {l : List Tok}
theorem S_Fn {α : Type} {enc : α → V} {f : FuncId} {args : List V} {rows : List (List Lf × List X)} {r : Rs Fnc} {g : Fnc → Nat → Rs α} {K : Nat → Nat → Nat → ByteArray → List (List D) → Int → List (List D) → Int → Int → ByteArray → List (List D) → List (List D) → List (List D) → Int → Int → Int → Int → List (List D) → Int → Option Out} {Q : Nat → Nat → Nat → D → List (List D) → Int → Option Out}
    (h : Sim l fnV (fun _ k _ => Ak k false f args rows) r) (hp : PanOn Q)
    (hy : ∀ a j, r = .ok a j → Sim l enc (fun m k n => K m k n (bx a.name) (Fld.rows a.params) a.res.k (T.rows a.res.l) a.body.k a.body.n (bx a.body.name) (strs a.body.names) (ints a.body.odds) (E.rows a.body.kids) a.body.line a.body.col a.line a.col (toks l) (Int.ofNat j)) (g a j)) :
    Sim l enc (fun m k n => r_a14SL5IL2IISL1L1L8IIII_L5I (Ak k false f args rows) (K m k n) (Q m k n)) (thenR r g) := by
  cases r with
  | ok a j => exact fun hr => v_a14SL5IL2IISL1L1L8IIII_L5I (h (fun q => by cases q)) (hy a j rfl hr)
  | no j => exact fun hr => u_a14SL5IL2IISL1L1L8IIII_L5I (h (fun q => by cases q)) (Ev.of fun m k n => hp m k n _ _ _)
  | out => exact fun hr => absurd rfl hr
theorem types_ok (hl : Few l) (i : Nat) (hi : i < l.length) : Sim l tV (fun _ k _ => Ak k false 90 [V.one (X.ptr 0 0)] (rds l i)) (pw l .typ i) := (typ_ok hl _ i hi (Nat.lt_succ_self _)).1
theorem field_ok (hl : Few l) (i : Nat) (hi : i < l.length) : Sim l fV (fun _ k _ => Ak k false 72 [V.one (X.ptr 0 0)] (rds l i)) (pw l .field i) := by
  have g := hl.good
  rw [pw_eq g _ i hi]
  refine fun hr => call72 _ _ ((?_ : Sim l fV (fun _ k n => e72 (Ak k) n (toks l) (Int.ofNat i)) (run (pw l) l (body .field) i)) hr)
  clear hr
  simp only [e72_eq]
  refine S_kind hl.len hi 1 (fun _ _ _ _ _ _ => rfl) fun h => ?_
  have h1 := nxk g hi h (by decide)
  refine S_want hl.len h1 wCl (fun _ _ _ _ _ _ => rfl) fun h => ?_
  have h2 := nx g h1 h
  refine Eq.subst (motive := fun r => Sim l fV _ r) (run_call _ _ _).symm ?_
  exact S_T (types_ok hl _ h2) (fun _ _ _ _ _ _ => rfl) fun a j hj => Sim.ret fun _ _ _ => rfl
/-! ### Functions -/
theorem is_step {α : Type} {enc : α → V} (hl : Few l) {i : Nat} (hi : i < l.length) (s : List UInt8) {K : Nat → Nat → Nat → Bool → List (List D) → Int → Option Out} {Q : Nat → Nat → Nat → D → List (List D) → Int → Option Out} {r : Rs α}
    (h : Sim l enc (fun m k n => K m k n (isT s (tk l i)) (toks l) (Int.ofNat i)) r) :
    Sim l enc (fun m k n => r_oB_L5I (Ak k false 80 [V.one (X.ptr 0 0), V.one (X.d (D.str (bx s)))] (rds l i)) (K m k n) (Q m k n)) r := fun hr => v_oB_L5I (C_is hi s) (h hr)
def heads (t : Tok) (ps : List Fld) : Pm Fnc := want wRp (funRest t ps)
theorem head_ok (hl : Few l) (hn : Nums l) (i : Nat) (hi : i < l.length) (t : Tok) (ps : List Fld) (z' : List (List D)) (z3 : Int) (s2 : ByteArray) (x3 x4 x5 : Int) (s6 : ByteArray) (x7 x8 x9 x10 x13 x14 x15 : Int) (s16 : ByteArray) (x17 x18 : Int) :
    Sim l fnV (fun _ k n => q73_1_v1 (Ak k) n z' z3 (toks l) (Int.ofNat i) s2 x3 x4 x5 s6 x7 x8 x9 x10 (bx t.text) (Fld.rows ps) x13 x14 x15 s16 x17 x18 t.line t.col) (run (pw l) l (heads t ps) i) := by
  have g := hl.good
  simp only [q73_1_v1_eq]
  unfold heads funRest
  refine S_want hl.len hi wRp (fun _ _ _ _ _ _ => rfl) fun h => ?_
  have h1 := nx g hi h
  refine S_want hl.len h1 wCl (fun _ _ _ _ _ _ => rfl) fun h => ?_
  have h2 := nx g h1 h
  refine Eq.subst (motive := fun r => Sim l fnV _ r) (run_call _ _ _).symm ?_
  refine S_T (types_ok hl _ h2) (fun _ _ _ _ _ _ => rfl) fun a j hj => ?_
  have hf := pw_ok g h2 hj
  refine S_want hl.len hf.2 wEq (fun _ _ _ _ _ _ => rfl) fun h => ?_
  have h3 := nx g hf.2 h
  refine Eq.subst (motive := fun r => Sim l fnV _ r) (run_call _ _ _).symm ?_
  refine S_E (exprs_ok hl hn _ h3) (fun _ _ _ _ _ _ => rfl) fun b j2 hj2 => ?_
  have hf2 := pw_ok g h3 hj2
  refine S_want hl.len hf2.2 wSc (fun _ _ _ _ _ _ => rfl) fun h => ?_
  exact Sim.ret (P := pw l) fun _ _ _ => rfl
theorem head0_eq (Γ : Bool → SemL) (n1 : Nat) (z2 : List (List D)) (z3 : Int) (r0 : List (List D)) (x1 : Int) (s2 : ByteArray) (x3 x4 x5 : Int) (s6 : ByteArray) (x7 x8 x9 x10 : Int) (s11 : ByteArray) (x12 x13 x14 : Int) (s15 : ByteArray) (x16 x17 x18 x19 : Int) :
    q73_1 Γ n1 z2 z3 r0 x1 s2 x3 x4 x5 s6 x7 x8 x9 x10 s11 x12 x13 x14 s15 x16 x17 x18 x19 = q73_1_v1 Γ n1 z2 z3 r0 x1 s2 x3 x4 x5 s6 x7 x8 x9 x10 s11 [] x12 x13 x14 s15 x16 x17 x18 x19 := by
  rw [q73_1_eq, q73_1_v1_eq]
theorem params_ok (hl : Few l) (hn : Nums l) (t : Tok) (z' : List (List D)) (z3 : Int) (s2 : ByteArray) (x3 x4 x5 : Int) (s6 : ByteArray) (x7 x8 x9 x10 x13 x14 x15 : Int) (s16 : ByteArray) (x17 x18 : Int) : ∀ (d i : Nat), i < l.length → l.length - i ≤ d → ∀ acc : List Fld, acc.length ≤ i →
    Sim l fnV (fun m k n => l73_0 m (Ak k) n z' z3 (toks l) (Int.ofNat i) s2 x3 x4 x5 s6 x7 x8 x9 x10 (bx t.text) (Fld.rows acc) x13 x14 x15 s16 x17 x18 t.line t.col) (run (pw l) l (.call .fields fun r => funRest t (acc ++ r)) i)
  | 0, i, hi, h, _, _ => by omega
  | d + 1, i, hi, h, acc, ha => by
    have g := hl.good
    rw [run_open g _ _ i hi]
    refine Sim.step ?_
    simp only [l73_0_eq]
    refine S_take hl.len hi wCm (fun h => Sim.yes rfl ?_) (fun h => Sim.no rfl ?_)
    · have h1 := nx g hi h
      simp only [q73_0_eq]
      refine Eq.subst (motive := fun r => Sim l fnV _ r) (run_call _ _ _).symm ?_
      refine S_F (field_ok hl _ h1) (fun _ _ _ _ _ _ => rfl) fun a j hj => ?_
      have hf := pw_ok g h1 hj
      refine Sim.yes (by rw [Fld.rows_len]; exact roomy _ _ (by have := hl.len; omega) (by omega)) ?_
      rw [← Fld.rows_app]
      have := params_ok hl hn t z' z3 s2 x3 x4 x5 s6 x7 x8 x9 x10 x13 x14 x15 s16 x17 x18 d j hf.2 (by omega) (acc ++ [a]) (by rw [List.length_append, List.length_singleton]; omega)
      simp only [List.append_assoc, List.singleton_append] at this
      exact this
    · have := head_ok hl hn i hi t acc z' z3 s2 x3 x4 x5 s6 x7 x8 x9 x10 x13 x14 x15 s16 x17 x18
      unfold heads at this
      show Sim l fnV _ (run (pw l) l (want wRp (funRest t (acc ++ []))) i)
      rw [List.append_nil]
      exact this
theorem fun_ok (hl : Few l) (hn : Nums l) (i : Nat) (hi : i < l.length) : Sim l fnV (fun _ k _ => Ak k false 73 [V.one (X.ptr 0 0)] (rds l i)) (pw l .fun_ i) := by
  have g := hl.good
  rw [pw_eq g _ i hi]
  refine fun hr => call73 _ _ ((?_ : Sim l fnV (fun _ k n => e73 (Ak k) n (toks l) (Int.ofNat i)) (run (pw l) l (body .fun_) i)) hr)
  clear hr
  simp only [e73_eq]
  refine S_kind hl.len hi 1 (fun _ _ _ _ _ _ => rfl) fun h => ?_
  have h1 := nxk g hi h (by decide)
  refine S_want hl.len h1 wLp (fun _ _ _ _ _ _ => rfl) fun h => ?_
  have h2 := nx g h1 h
  refine is_step hl h2 wRp ?_
  cases h : isT wRp (tk l (i + 1 + 1)) with
  | true =>
    refine Sim.no rfl ?_
    have e1 : run (pw l) l (Pm.take wRp (funRest (tk l i) []) (.call .field fun a => .call .fields fun r => funRest (tk l i) (a :: r))) (i + 1 + 1) = run (pw l) l (heads (tk l i) []) (i + 1 + 1) := by
      unfold heads
      rw [run, run, h]
      rfl
    refine Eq.subst (motive := fun r => Sim l fnV _ r) e1.symm ?_
    simp only [head0_eq]
    exact head_ok hl hn _ h2 (tk l i) [] _ _ _ _ _ _ _ _ _ _ _ _ _ _ _ _ _
  | false =>
    refine Sim.yes rfl ?_
    have e1 : run (pw l) l (Pm.take wRp (funRest (tk l i) []) (.call .field fun a => .call .fields fun r => funRest (tk l i) (a :: r))) (i + 1 + 1) = run (pw l) l (.call .field fun a => .call .fields fun r => funRest (tk l i) (a :: r)) (i + 1 + 1) := by
      rw [run, h]
      rfl
    refine Eq.subst (motive := fun r => Sim l fnV _ r) e1.symm ?_
    rw [run_call]
    refine S_F (field_ok hl _ h2) (fun _ _ _ _ _ _ => rfl) fun a j hj => ?_
    have hf := pw_ok g h2 hj
    rw [← Fld.rows_one]
    exact Sim.diag (params_ok hl hn (tk l i) _ _ _ _ _ _ _ _ _ _ _ _ _ _ _ _ _ _ j hf.2 (Nat.le_refl _) [a] (by simp only [List.length_cons, List.length_nil]; omega))

/-! ### Programs -/
abbrev prog2 (ins : List Fld) (fs : List Fnc) : Pm Pg := .call .expr fun q => .ret ⟨ins, fs, q⟩
theorem funs3_ok (hl : Few l) (hn : Nums l) (ins : List Fld) (z' : List (List D)) (z3 x2 x3 : Int) (s4 : ByteArray) (x5 x6 x8 x9 : Int) (s10 : ByteArray) (x11 x12 : Int) : ∀ (d i : Nat), i < l.length → l.length - i ≤ d → ∀ fs : List Fnc, fs.length ≤ i →
    Sim l pV (fun m k n => l45_1_v3 m (Ak k) n z' z3 (toks l) (Int.ofNat i) x2 x3 s4 x5 x6 (Fld.rows ins) (Fnc.rows fs) x8 x9 s10 x11 x12) (run (pw l) l (.call .funs fun b => prog2 ins (fs ++ b)) i)
  | 0, i, hi, h, _, _ => by omega
  | d + 1, i, hi, h, fs, ha => by
    have g := hl.good
    rw [run_open g _ _ i hi]
    refine Sim.step ?_
    simp only [l45_1_v3_eq]
    refine S_take hl.len hi wFun (fun h => Sim.yes rfl ?_) (fun h => Sim.no rfl ?_)
    · have h1 := nx g hi h
      simp only [q45_2_v3_eq]
      refine Eq.subst (motive := fun r => Sim l pV _ r) (run_call _ _ _).symm ?_
      refine S_Fn (fun_ok hl hn _ h1) (fun _ _ _ _ _ _ => rfl) fun a j hj => ?_
      have hf := pw_ok g h1 hj
      refine Sim.yes (by rw [Fnc.rows_len]; exact roomy _ _ (by have := hl.len; omega) (by omega)) ?_
      rw [← Fnc.rows_app]
      have := funs3_ok hl hn ins z' z3 x2 x3 s4 x5 x6 x8 x9 s10 x11 x12 d j hf.2 (by omega) (fs ++ [a]) (by rw [List.length_append, List.length_singleton]; omega)
      simp only [List.append_assoc, List.singleton_append] at this
      exact this
    · simp only [q45_3_v3_eq]
      show Sim l pV _ (run (pw l) l (prog2 ins (fs ++ [])) i)
      rw [List.append_nil]
      refine Eq.subst (motive := fun r => Sim l pV _ r) (run_call _ _ _).symm ?_
      exact S_E (exprs_ok hl hn _ hi) (fun _ _ _ _ _ _ => rfl) fun b j2 hj2 => Sim.ret fun _ _ _ => rfl
theorem funs2_ok (hl : Few l) (hn : Nums l) (ins : List Fld) (z' : List (List D)) (z3 x2 x3 : Int) (s4 : ByteArray) (x5 x6 x8 x9 : Int) (s10 : ByteArray) (x11 x12 : Int) : ∀ (d i : Nat), i < l.length → l.length - i ≤ d → ∀ fs : List Fnc, fs.length ≤ i →
    Sim l pV (fun m k n => l45_1_v2 m (Ak k) n z' z3 (toks l) (Int.ofNat i) x2 x3 s4 x5 x6 (Fnc.rows fs) x8 x9 s10 x11 x12) (run (pw l) l (.call .funs fun b => prog2 [] (fs ++ b)) i)
  | 0, i, hi, h, _, _ => by omega
  | d + 1, i, hi, h, fs, ha => by
    have g := hl.good
    rw [run_open g _ _ i hi]
    refine Sim.step ?_
    simp only [l45_1_v2_eq]
    refine S_take hl.len hi wFun (fun h => Sim.yes rfl ?_) (fun h => Sim.no rfl ?_)
    · have h1 := nx g hi h
      simp only [q45_2_v2_eq]
      refine Eq.subst (motive := fun r => Sim l pV _ r) (run_call _ _ _).symm ?_
      refine S_Fn (fun_ok hl hn _ h1) (fun _ _ _ _ _ _ => rfl) fun a j hj => ?_
      have hf := pw_ok g h1 hj
      refine Sim.yes (by rw [Fnc.rows_len]; exact roomy _ _ (by have := hl.len; omega) (by omega)) ?_
      rw [← Fnc.rows_app]
      have := funs2_ok hl hn ins z' z3 x2 x3 s4 x5 x6 x8 x9 s10 x11 x12 d j hf.2 (by omega) (fs ++ [a]) (by rw [List.length_append, List.length_singleton]; omega)
      simp only [List.append_assoc, List.singleton_append] at this
      exact this
    · simp only [q45_3_v2_eq]
      show Sim l pV _ (run (pw l) l (prog2 [] (fs ++ [])) i)
      rw [List.append_nil]
      refine Eq.subst (motive := fun r => Sim l pV _ r) (run_call _ _ _).symm ?_
      exact S_E (exprs_ok hl hn _ hi) (fun _ _ _ _ _ _ => rfl) fun b j2 hj2 => Sim.ret fun _ _ _ => rfl
theorem funs1_ok (hl : Few l) (hn : Nums l) (ins : List Fld) (z' : List (List D)) (z3 x2 x3 : Int) (s4 : ByteArray) (x5 x6 x8 x9 : Int) (s10 : ByteArray) (x11 x12 : Int) (i : Nat) (hi : i < l.length) :
    Sim l pV (fun m k n => l45_1_v1 m (Ak k) n z' z3 (toks l) (Int.ofNat i) x2 x3 s4 x5 x6 (Fld.rows ins) x8 x9 s10 x11 x12) (run (pw l) l (.call .funs fun b => prog2 ins b) i) := by
  have g := hl.good
  rw [run_open g _ _ i hi]
  refine Sim.step ?_
  simp only [l45_1_v1_eq]
  refine S_take hl.len hi wFun (fun h => Sim.yes rfl ?_) (fun h => Sim.no rfl ?_)
  · have h1 := nx g hi h
    simp only [q45_2_v1_eq]
    refine Eq.subst (motive := fun r => Sim l pV _ r) (run_call _ _ _).symm ?_
    refine S_Fn (fun_ok hl hn _ h1) (fun _ _ _ _ _ _ => rfl) fun a j hj => ?_
    have hf := pw_ok g h1 hj
    have e1 := (Fnc.rows_app [] a).symm
    rw [show Fnc.rows [] = [] from rfl, List.nil_append, List.nil_append] at e1
    rw [e1]
    exact funs3_ok hl hn ins z' z3 x2 x3 s4 x5 x6 x8 x9 s10 x11 x12 _ j hf.2 (Nat.le_refl _) [a] (by simp only [List.length_cons, List.length_nil]; omega)
  · simp only [q45_3_v1_eq]
    refine Eq.subst (motive := fun r => Sim l pV _ r) (run_call _ _ _).symm ?_
    exact S_E (exprs_ok hl hn _ hi) (fun _ _ _ _ _ _ => rfl) fun b j2 hj2 => Sim.ret fun _ _ _ => rfl
theorem inputs_ok (hl : Few l) (hn : Nums l) (z' : List (List D)) (z3 x2 x3 : Int) (s4 : ByteArray) (x5 x6 x8 x9 : Int) (s10 : ByteArray) (x11 x12 : Int) : ∀ (d i : Nat), i < l.length → l.length - i ≤ d → ∀ ins : List Fld, ins.length ≤ i →
    Sim l pV (fun m k n => l45_0_v1 m (Ak k) n z' z3 (toks l) (Int.ofNat i) x2 x3 s4 x5 x6 (Fld.rows ins) x8 x9 s10 x11 x12) (run (pw l) l (.call .inputs fun a => .call .funs fun b => prog2 (ins ++ a) b) i)
  | 0, i, hi, h, _, _ => by omega
  | d + 1, i, hi, h, ins, ha => by
    have g := hl.good
    rw [run_open g _ _ i hi]
    refine Sim.step ?_
    simp only [l45_0_v1_eq]
    refine S_take hl.len hi wInput (fun h => Sim.yes rfl ?_) (fun h => Sim.no rfl ?_)
    · have h1 := nx g hi h
      simp only [q45_0_v1_eq]
      refine Eq.subst (motive := fun r => Sim l pV _ r) (run_call _ _ _).symm ?_
      refine S_F (field_ok hl _ h1) (fun _ _ _ _ _ _ => rfl) fun a j hj => ?_
      have hf := pw_ok g h1 hj
      refine Sim.yes (by rw [Fld.rows_len]; exact roomy _ _ (by have := hl.len; omega) (by omega)) ?_
      refine S_want hl.len hf.2 wSc (fun _ _ _ _ _ _ => rfl) fun h => ?_
      have h2 := nx g hf.2 h
      rw [← Fld.rows_app]
      have := inputs_ok hl hn z' z3 x2 x3 s4 x5 x6 x8 x9 s10 x11 x12 d (j + 1) h2 (by omega) (ins ++ [a]) (by rw [List.length_append, List.length_singleton]; omega)
      simp only [List.append_assoc, List.singleton_append] at this
      exact this
    · simp only [q45_1_v1_eq]
      show Sim l pV _ (run (pw l) l (.call .funs fun b => prog2 (ins ++ []) b) i)
      rw [List.append_nil]
      exact Sim.diag (funs1_ok hl hn ins z' z3 x2 x3 s4 x5 x6 x8 x9 s10 x11 x12 i hi)
end
end Go.Proofs.Ytbmcafehpgimfaa.Ps
namespace Go.Proofs.Ytbmcafehpgimfaa.Ps
set_option linter.unusedVariables false
set_option linter.unusedSimpArgs false
open Go Go.RowKit Px
open Lx (Tok tok scan sm dg nm sgn val isWord ws nnl Flt)

theorem tok_kind {l : List UInt8} {k : Int} {w : List UInt8} {n : Int} (h : Lx.tok l = .ok k w n) : k ≠ 5 ∧ k ≠ 0 ∧ 0 ≤ n ∧ n ≤ 2147483647 := by
  unfold Lx.tok at h
  split at h
  · split at h
    · cases h
    · split at h <;> (cases h; decide)
  · split at h
    · split at h
      · cases h
      · rename_i h2
        cases h
        exact ⟨by decide, by decide, by omega, by omega⟩
    · split at h
      · cases h
      · cases h; decide
structure TokL (n : Nat) (l : List Tok) : Prop where
  few : l.length ≤ n + 1
  pos : 0 < l.length
  last : ∀ i, i < l.length → ((tk l i).kind = 5 ↔ i + 1 = l.length)
  nums : ∀ t ∈ l, 0 ≤ t.n ∧ t.n ≤ 2147483647
theorem tk_succ (t : Tok) (l : List Tok) (i : Nat) : tk (t :: l) (i + 1) = tk l i := rfl
theorem TokL.cons {n : Nat} {l : List Tok} (h : TokL n l) {t : Tok} (h1 : t.kind ≠ 5) (h2 : 0 ≤ t.n ∧ t.n ≤ 2147483647) : TokL (n + 1) (t :: l) where
  few := by have := h.few; rw [List.length_cons]; omega
  pos := by simp
  last := fun i hi => by
    cases i with
    | zero =>
      have := h.pos
      rw [List.length_cons]
      show t.kind = 5 ↔ _
      exact ⟨fun e => absurd e h1, fun e => by omega⟩
    | succ i =>
      rw [tk_succ]
      rw [List.length_cons] at hi ⊢
      rw [h.last i (by omega)]
      omega
  nums := fun x hx => by
    rcases List.mem_cons.1 hx with rfl | hx
    · exact h2
    · exact h.nums x hx
theorem TokL.mono {n m : Nat} {l : List Tok} (h : TokL n l) (hm : n ≤ m) : TokL m l := ⟨by have := h.few; omega, h.pos, h.last, h.nums⟩
theorem scan_tokl : ∀ (d : Nat) (l : List UInt8) (line col : Int) (r : List Tok), l.length < d → scan l line col = .ok r → TokL l.length r
  | 0, l, _, _, _, h, _ => by omega
  | d + 1, [], line, col, r, hd, h => by
    rw [scan] at h
    cases h
    exact ⟨by simp, by simp, fun i hi => by
      have : i = 0 := by simpa using hi
      subst this
      exact ⟨fun _ => rfl, fun _ => rfl⟩, fun t ht => by
      rw [List.mem_singleton.1 ht]
      exact ⟨Int.le_refl 0, (by decide : (0 : Int) ≤ 2147483647)⟩⟩
  | d + 1, c :: t, line, col, r, hd, h => by
    rw [List.length_cons] at hd
    rw [scan] at h
    split at h
    · exact (scan_tokl d t _ _ r (by omega) h).mono (by simp)
    split at h
    · exact (scan_tokl d t _ _ r (by omega) h).mono (by simp)
    split at h
    · have := (List.dropWhile_sublist (p := nnl) (l := t)).length_le
      exact (scan_tokl d _ _ _ r (by omega) h).mono (by rw [List.length_cons]; omega)
    cases ht : Lx.tok (c :: t) with
    | bad e w => rw [ht] at h; cases h
    | ok k w n =>
      rw [ht] at h
      simp only at h
      cases hs : scan (t.drop (w.length - 1)) line (col + w.length) with
      | error f => rw [hs] at h; cases h
      | ok l' =>
        rw [hs] at h
        cases h
        have h1 := scan_tokl d _ _ _ l' (by rw [List.length_drop]; omega) hs
        have hk := tok_kind ht
        exact (h1.cons (t := ⟨k, w, n, line, col⟩) hk.1 hk.2.2).mono (by rw [List.length_drop, List.length_cons]; omega)
theorem scan_bad : ∀ (d : Nat) (l : List UInt8) (line col : Int) (g : Flt), l.length < d → scan l line col = .error g → g.e ≠ 0
  | 0, l, _, _, _, h, _ => by omega
  | d + 1, [], line, col, r, hd, h => by rw [scan] at h; cases h
  | d + 1, c :: t, line, col, g, hd, h => by
    rw [List.length_cons] at hd
    rw [scan] at h
    split at h
    · exact scan_bad d t _ _ g (by omega) h
    split at h
    · exact scan_bad d t _ _ g (by omega) h
    split at h
    · have := (List.dropWhile_sublist (p := nnl) (l := t)).length_le
      exact scan_bad d _ _ _ g (by omega) h
    cases ht : Lx.tok (c :: t) with
    | bad e w =>
      rw [ht] at h
      cases h
      exact tok_bad ht
    | ok k w n =>
      rw [ht] at h
      simp only at h
      cases hs : scan (t.drop (w.length - 1)) line (col + w.length) with
      | error f =>
        rw [hs] at h
        cases h
        exact scan_bad d _ _ _ g (by rw [List.length_drop]; omega) hs
      | ok l' => rw [hs] at h; cases h
/-! ### A whole text -/
abbrev EXl : List Lf := [Lf.int IntKind.i64, Lf.int IntKind.i64, Lf.str, Lf.lst 1, Lf.lst 1, Lf.lst 8, Lf.int IntKind.i64, Lf.int IntKind.i64]
def eX (e : E) : List X := [X.d (D.int IntKind.i64 e.k), X.d (D.int IntKind.i64 e.n), X.d (D.str (bx e.name)), X.d (D.list 1 (strs e.names)), X.d (D.list 1 (ints e.odds)), X.d (D.list 8 (E.rows e.kids)), X.d (D.int IntKind.i64 e.line), X.d (D.int IntKind.i64 e.col)]
def noE : E := .mk 0 0 [] [] [] [] 0 0
def tokF (t : Tok) : Flt := ⟨11, t.text, t.line, t.col⟩
def wholeE (l : List Tok) : Rs E := run (pw l) l (.call .expr fun e => .knd 5 (.ret e) .fail) 0
/-- What reading tells: a fault or none, and what stands in the variable then. -/
def ReadOut (s : List UInt8) (f : List X) (e : E) : Prop :=
  if 20000 < s.length then f = [iX 2, sX [], iX 0, iX 0] ∧ e = noE else
  match scan s 1 1 with
  | .error g => f = fltX g ∧ e = noE
  | .ok l => match wholeE l with
    | .ok a _ => f = fine ∧ e = a
    | .no j => f = fltX (tokF (tk l j))
    | .out => False
end Go.Proofs.Ytbmcafehpgimfaa.Ps
namespace Go.Proofs.Ytbmcafehpgimfaa.Px
set_option linter.unusedVariables false
set_option linter.unusedSimpArgs false
mutual
def deepE : E → Nat → Option E
  | e, 0 => some e
  | .mk _ _ _ _ _ ks _ _, n + 1 => deepEs ks n
def deepEs : List E → Nat → Option E
  | [], _ => none
  | x :: r, n => match deepE x n with
    | some y => some y
    | none => deepEs r n
end
def big (a b : Int) : Int := if a < b then b else a
mutual
def deepT : T → Int
  | .mk _ l => IntKind.wrap .i64 (deepTs l 0 + 1)
def deepTs : List T → Int → Int
  | [], a => a
  | x :: r, a => deepTs r (big a (deepT x))
end
theorem deepE_zero (e : E) : deepE e 0 = some e := by cases e; rw [deepE]
theorem deepE_succ (e : E) (n : Nat) : deepE e (n + 1) = deepEs e.kids n := by cases e; rw [deepE]; rfl
theorem deepT_eq (t : T) : deepT t = IntKind.wrap .i64 (deepTs t.l 0 + 1) := by cases t; rw [deepT]; rfl
def limE (e : E) : Option (Int × Int) := (deepE e 40).map fun x => (x.line, x.col)
def limT (t : T) (a b : Int) : Option (Int × Int) := if 40 < deepT t then some (a, b) else none
def limFs : List Fld → Option (Int × Int)
  | [] => none
  | f :: r => match limT f.typ f.line f.col with
    | some x => some x
    | none => limFs r
def limFn (f : Fnc) : Option (Int × Int) := match limFs f.params with
  | some x => some x
  | none => match limT f.res f.line f.col with
    | some x => some x
    | none => limE f.body
def limFns : List Fnc → Option (Int × Int)
  | [] => none
  | f :: r => match limFn f with
    | some x => some x
    | none => limFns r
def limP (p : Pg) : Option (Int × Int) := match limFs p.inputs with
  | some x => some x
  | none => match limFns p.funs with
    | some x => some x
    | none => limE p.query
end Go.Proofs.Ytbmcafehpgimfaa.Px
namespace Go.Proofs.Ytbmcafehpgimfaa.Ps
set_option linter.unusedVariables false
open Go Go.RowKit Px
open Lx (Tok)

def deepV : Option E → V
  | some e => V.tup [eV e, V.one (bX true)]
  | none => V.tup [eV noE, V.one (bX false)]
def limX : Option (Int × Int) → List X
  | none => fine
  | some (a, b) => [iX 2, sX [], iX a, iX b]
theorem E.rows_at (ks : List E) (i : Nat) (h : i < ks.length) : (E.rows ks).getD i [] = E.row ks[i] := by
  have : Inhabited E := ⟨noE⟩
  rw [E.rows_map, rows_getD _ _ _ h, List.getD_eq_getElem?_getD, List.getElem?_eq_getElem h]
  rfl
theorem T.rows_at (ks : List T) (i : Nat) (h : i < ks.length) : (T.rows ks).getD i [] = T.row ks[i] := by
  have : Inhabited T := ⟨.mk 0 []⟩
  rw [T.rows_map, rows_getD _ _ _ h, List.getD_eq_getElem?_getD, List.getElem?_eq_getElem h]
  rfl
theorem L_deep (ks : List E) (hk : ks.length < 9223372036854775807) (n : Nat) (hn : n ≤ 40) (H : ∀ x ∈ ks, Cal 57 [eV x, nV (Int.ofNat n)] [] (RV (deepV (deepE x n)))) (x4 x5 : Int) (s6 : ByteArray) (x7 x8 : Int) : ∀ (d i : Nat), i ≤ ks.length → ks.length - i = d →
    Ev (fun m k z => l57_0 m (Ak k) z (Int.ofNat n + 1) (E.rows ks) (Int.ofNat ks.length) (Int.ofNat i) x4 x5 s6 x7 x8) (RV (deepV (deepEs (ks.drop i) n))) := by
  intro d
  induction d with
  | zero =>
    intro i hi hd
    rw [List.drop_eq_nil_of_le (by omega), deepEs]
    refine Ev.step ?_
    simp only [l57_0_eq]
    refine Ev.no (lt_no i _ (by omega)) ?_
    simp only [q57_3_eq]
    refine Ev.of fun m k z => ?_
    unfold deepV eV noE
    simp only [E.rows_nil, E.kids]
    rfl
  | succ d ih =>
    intro i hi hd
    have hlt : i < ks.length := by omega
    have hat := E.rows_at ks i hlt
    rw [E.row_eq] at hat
    rw [List.drop_eq_getElem_cons hlt, deepEs]
    refine Ev.step ?_
    simp only [l57_0_eq]
    refine Ev.yes (lt_yes i _ hlt) ?_
    simp only [q57_1_eq, tn, hat]
    refine Ev.yes (in_range i _ (by rw [E.rows_len]; exact hlt)) ?_
    have hw : IntKind.wrap .i64 (Int.ofNat n + 1 - 1) = Int.ofNat n := by rw [wrap_in _ (by simp only [Int.ofNat_eq_natCast]; omega) (by simp only [Int.ofNat_eq_natCast]; omega)]; omega
    rw [hw]
    have hc := H ks[i] (List.getElem_mem hlt)
    cases hx : deepE ks[i] n with
    | some y =>
      rw [hx] at hc
      exact v_t2a8IISL1L1L8IIoB hc (Ev.yes rfl (Ev.ret _))
    | none =>
      rw [hx] at hc
      refine v_t2a8IISL1L1L8IIoB hc (Ev.no rfl ?_)
      simp only [q57_2_eq, wrap_up i (by omega)]
      exact ih (i + 1) (by omega) (by omega)
/-! Every list within is short. -/
mutual
def SmallE : E → Prop
  | .mk _ _ _ _ _ ks _ _ => ks.length < 9223372036854775807 ∧ SmallEs ks
def SmallEs : List E → Prop
  | [] => True
  | x :: r => SmallE x ∧ SmallEs r
end
mutual
theorem C_deep : ∀ (e : E), SmallE e → ∀ n, n ≤ 40 → Cal 57 [eV e, nV (Int.ofNat n)] [] (RV (deepV (deepE e n)))
  | e, hs, 0, _ => by
    rw [deepE_zero]
    refine call57 _ _ _ _ _ _ _ _ _ ?_
    simp only [e57_eq]
    exact Ev.yes rfl (Ev.ret _)
  | .mk k m s ns os ks a b, hs, n + 1, hn => by
    rw [SmallE] at hs
    rw [deepE_succ]
    refine call57 _ _ _ _ _ _ _ _ _ ?_
    simp only [e57_eq]
    refine Ev.no (decide_eq_false (by simp only [Int.ofNat_eq_natCast]; omega)) ?_
    simp only [q57_0_eq]
    have := L_deep ks hs.1 n (by omega) (C_deepAll ks hs.2 n (by omega))
    have h2 := fun (x4 x5 : Int) (s6 : ByteArray) (x7 x8 : Int) => Ev.diag (this x4 x5 s6 x7 x8 _ 0 (Nat.zero_le _) rfl)
    have e1 : Int.ofNat (E.rows (E.mk k m s ns os ks a b).kids).length = Int.ofNat ks.length := congrArg Int.ofNat (E.rows_len ks)
    rw [e1]
    exact h2 _ _ _ _ _
theorem C_deepAll : ∀ (ks : List E), SmallEs ks → ∀ n, n ≤ 40 → ∀ x ∈ ks, Cal 57 [eV x, nV (Int.ofNat n)] [] (RV (deepV (deepE x n)))
  | [], _, _, _, x, hx => by cases hx
  | y :: r, hs, n, hn, x, hx => by
    rw [SmallEs] at hs
    rcases List.mem_cons.1 hx with h | h
    · rw [h]; exact C_deep y hs.1 n hn
    · exact C_deepAll r hs.2 n hn x h
end
end Go.Proofs.Ytbmcafehpgimfaa.Ps
namespace Go.Proofs.Ytbmcafehpgimfaa.Ps
set_option linter.unusedVariables false
set_option linter.unusedSimpArgs false
open Go Go.RowKit Px
open Lx (Tok)

/-! Every list within is short. -/
mutual
def SmallT : T → Prop
  | .mk _ l => l.length < 9223372036854775807 ∧ SmallTs l
def SmallTs : List T → Prop
  | [] => True
  | x :: r => SmallT x ∧ SmallTs r
end
theorem deepTs_step (ks : List T) (i : Nat) (h : i < ks.length) (a : Int) : deepTs (ks.drop i) a = deepTs (ks.drop (i + 1)) (big a (deepT ks[i])) := by
  rw [List.drop_eq_getElem_cons h, deepTs]
theorem L_deepT (ks : List T) (hk : ks.length < 9223372036854775807) (H : ∀ x ∈ ks, Cal 75 [tV x] [] (RV (nV (deepT x)))) : ∀ (d i : Nat) (a : Int), i ≤ ks.length → ks.length - i = d →
    Ev (fun m k z => l75_0 m (Ak k) z a (T.rows ks) (Int.ofNat ks.length) (Int.ofNat i)) (RV (nV (IntKind.wrap .i64 (deepTs (ks.drop i) a + 1)))) := by
  intro d
  induction d with
  | zero =>
    intro i a hi hd
    rw [List.drop_eq_nil_of_le (by omega), deepTs]
    refine Ev.step ?_
    simp only [l75_0_eq]
    refine Ev.no (lt_no i _ (by omega)) ?_
    simp only [q75_2_eq]
    exact Ev.ret _
  | succ d ih =>
    intro i a hi hd
    have hlt : i < ks.length := by omega
    have hat := T.rows_at ks i hlt
    rw [T.row_eq] at hat
    rw [deepTs_step ks i hlt]
    refine Ev.step ?_
    simp only [l75_0_eq]
    refine Ev.yes (lt_yes i _ hlt) ?_
    simp only [q75_0_eq, tn, hat]
    refine Ev.yes (in_range i _ (by rw [T.rows_len]; exact hlt)) ?_
    have hc := H ks[i] (List.getElem_mem hlt)
    refine v_oI hc ?_
    simp only [q75_1_eq, wrap_up i (show i < 9223372036854775807 by omega)]
    exact ih (i + 1) _ (by omega) (by omega)
mutual
theorem C_deepT : ∀ (t : T), SmallT t → Cal 75 [tV t] [] (RV (nV (deepT t)))
  | .mk k l, hs => by
    rw [SmallT] at hs
    rw [deepT_eq]
    refine call75 _ _ ?_
    simp only [e75_eq]
    have := Ev.diag (L_deepT l hs.1 (C_deepTs l hs.2) _ 0 0 (Nat.zero_le _) rfl)
    have e1 : Int.ofNat (T.rows (T.mk k l).l).length = Int.ofNat l.length := congrArg Int.ofNat (T.rows_len l)
    rw [e1]
    exact this
theorem C_deepTs : ∀ (ks : List T), SmallTs ks → ∀ x ∈ ks, Cal 75 [tV x] [] (RV (nV (deepT x)))
  | [], _, x, hx => by cases hx
  | y :: r, hs, x, hx => by
    rw [SmallTs] at hs
    rcases List.mem_cons.1 hx with h | h
    · rw [h]; exact C_deepT y hs.1
    · exact C_deepTs r hs.2 x h
end
theorem Fld.rows_at (ks : List Fld) (i : Nat) (h : i < ks.length) : (Fld.rows ks).getD i [] = Fld.row ks[i] := by
  have : Inhabited Fld := ⟨⟨[], .mk 0 [], 0, 0⟩⟩
  unfold Fld.rows
  rw [rows_getD _ _ _ h, List.getD_eq_getElem?_getD, List.getElem?_eq_getElem h]
  rfl
theorem Fnc.rows_at (ks : List Fnc) (i : Nat) (h : i < ks.length) : (Fnc.rows ks).getD i [] = Fnc.row ks[i] := by
  have : Inhabited Fnc := ⟨⟨[], [], .mk 0 [], noE, 0, 0⟩⟩
  unfold Fnc.rows
  rw [rows_getD _ _ _ h, List.getD_eq_getElem?_getD, List.getElem?_eq_getElem h]
  rfl
section
variable (p : Pg) (x13 x15 x16 : Int) (s14 : ByteArray)
/-- What a program must be like for its lists to be counted. -/
structure SmallFn (f : Fnc) : Prop where
  len : f.params.length < 9223372036854775807
  typ : ∀ x ∈ f.params, SmallT x.typ
  res : SmallT f.res
  body : SmallE f.body
structure SmallP (p : Pg) : Prop where
  ilen : p.inputs.length < 9223372036854775807
  ityp : ∀ x ∈ p.inputs, SmallT x.typ
  flen : p.funs.length < 9223372036854775807
  fn : ∀ f ∈ p.funs, SmallFn f
  query : SmallE p.query
end
end Go.Proofs.Ytbmcafehpgimfaa.Ps
namespace Go.Proofs.Ytbmcafehpgimfaa.Ps
set_option linter.unusedVariables false
set_option linter.unusedSimpArgs false
open Go Go.RowKit Px
open Lx (Tok tok scan sm dg nm sgn val isWord ws nnl Flt)

theorem wEs_len : ∀ l : List E, l.length ≤ wEs l
  | [] => by rw [wEs]; exact Nat.le_refl _
  | x :: r => by
    have := wEs_len r
    have := wE_pos x
    rw [wEs, List.length_cons]
    omega
mutual
theorem small_E : ∀ e : E, wE e < 9223372036854775807 → SmallE e
  | .mk k n s ns os ks a b, h => by
    rw [wE] at h
    rw [SmallE]
    have := wEs_len ks
    exact ⟨by omega, small_Es ks (by omega)⟩
theorem small_Es : ∀ l : List E, wEs l < 9223372036854775807 → SmallEs l
  | [], _ => by rw [SmallEs]; trivial
  | x :: r, h => by
    rw [wEs] at h
    rw [SmallEs]
    exact ⟨small_E x (by omega), small_Es r (by omega)⟩
end
theorem wT_pos (t : T) : 1 ≤ wT t := by cases t; rw [wT]; omega
theorem wTs_len : ∀ l : List T, l.length ≤ wTs l
  | [] => by rw [wTs]; exact Nat.le_refl _
  | x :: r => by
    have := wTs_len r
    have := wT_pos x
    rw [wTs, List.length_cons]
    omega
mutual
theorem small_T : ∀ t : T, wT t < 9223372036854775807 → SmallT t
  | .mk k l, h => by
    rw [wT] at h
    rw [SmallT]
    have := wTs_len l
    exact ⟨by omega, small_Ts l (by omega)⟩
theorem small_Ts : ∀ l : List T, wTs l < 9223372036854775807 → SmallTs l
  | [], _ => by rw [SmallTs]; trivial
  | x :: r, h => by
    rw [wTs] at h
    rw [SmallTs]
    exact ⟨small_T x (by omega), small_Ts r (by omega)⟩
end
theorem wFs_len : ∀ l : List Fld, l.length ≤ wFs l
  | [] => Nat.le_refl _
  | x :: r => by
    have := wFs_len r
    have := wT_pos x.typ
    rw [wFs, List.length_cons, wF]
    omega
theorem wFs_mem : ∀ (l : List Fld) (x : Fld), x ∈ l → wT x.typ ≤ wFs l
  | y :: r, x, h => by
    rw [wFs]
    rcases List.mem_cons.1 h with rfl | h
    · rw [wF]; omega
    · have := wFs_mem r x h; omega
theorem wFns_len : ∀ l : List Fnc, l.length ≤ wFns l
  | [] => Nat.le_refl _
  | x :: r => by
    have := wFns_len r
    rw [wFns, List.length_cons, wFn]
    omega
theorem wFns_mem : ∀ (l : List Fnc) (x : Fnc), x ∈ l → wFn x ≤ wFns l
  | y :: r, x, h => by
    rw [wFns]
    rcases List.mem_cons.1 h with rfl | h
    · omega
    · have := wFns_mem r x h; omega
/-! ### An expression -/
def okF : Flt := ⟨0, [], 0, 0⟩
def limF (x : Int × Int) : Flt := ⟨2, [], x.1, x.2⟩
def exprL (l : List Tok) : E × Flt :=
  match wholeE l with
  | .ok a _ => match limE a with
    | none => (a, okF)
    | some x => (noE, limF x)
  | .no j => (noE, tokF (tk l j))
  | .out => (noE, okF)
def exprF (s : List UInt8) : E × Flt :=
  if 20000 < s.length then (noE, limF (0, 0)) else
  match scan s 1 1 with
  | .error g => (noE, g)
  | .ok l => exprL l
/-! ### A program -/
abbrev PXl : List Lf := [Lf.lst 5, Lf.lst 14, Lf.int IntKind.i64, Lf.int IntKind.i64, Lf.str, Lf.lst 1, Lf.lst 1, Lf.lst 8, Lf.int IntKind.i64, Lf.int IntKind.i64]
def noP : Pg := ⟨[], [], noE⟩
def wholeP (l : List Tok) : Rs Pg := run (pw l) l (.call .program fun e => .knd 5 (.ret e) .fail) 0
def ReadOutP (s : List UInt8) (f : List X) (e : Pg) : Prop :=
  if 20000 < s.length then f = [iX 2, sX [], iX 0, iX 0] ∧ e = noP else
  match scan s 1 1 with
  | .error g => f = fltX g ∧ e = noP
  | .ok l => match wholeP l with
    | .ok a _ => f = fine ∧ e = a
    | .no j => f = fltX (tokF (tk l j))
    | .out => False
def progL_ (l : List Tok) : Pg × Flt :=
  match wholeP l with
  | .ok a _ => match limP a with
    | none => (a, okF)
    | some x => (noP, limF x)
  | .no j => (noP, tokF (tk l j))
  | .out => (noP, okF)
def progF (s : List UInt8) : Pg × Flt :=
  if 20000 < s.length then (noP, limF (0, 0)) else
  match scan s 1 1 with
  | .error g => (noP, g)
  | .ok l => progL_ l
end Go.Proofs.Ytbmcafehpgimfaa.Ps
namespace Go.Proofs.Ytbmcafehpgimfaa.Px
set_option linter.unusedVariables false
set_option linter.unusedSimpArgs false
mutual
def sameE : E → E → Bool
  | .mk k n s ns os ks _ _, .mk k' n' s' ns' os' ks' _ _ => (k == k') && ((n == n') && (decide (s = s') && (decide (ns = ns') && (decide (os = os') && sameEs ks ks'))))
def sameEs : List E → List E → Bool
  | [], [] => true
  | x :: a, y :: b => sameE x y && sameEs a b
  | [], _ :: _ => false
  | _ :: _, [] => false
end
mutual
def sameT : T → T → Bool
  | .mk k l, .mk k' l' => (k == k') && sameTs l l'
def sameTs : List T → List T → Bool
  | [], [] => true
  | x :: a, y :: b => sameT x y && sameTs a b
  | [], _ :: _ => false
  | _ :: _, [] => false
end
def eqL {α : Type} (f : α → α → Bool) : List α → List α → Bool
  | [], [] => true
  | x :: a, y :: b => f x y && eqL f a b
  | [], _ :: _ => false
  | _ :: _, [] => false
theorem eqL_len {α : Type} (f : α → α → Bool) : ∀ a b : List α, a.length ≠ b.length → eqL f a b = false
  | [], [], h => absurd rfl h
  | x :: a, y :: b, h => by rw [eqL, eqL_len f a b (by simpa using h), Bool.and_false]
  | [], _ :: _, _ => rfl
  | _ :: _, [], _ => rfl
theorem sameEs_eq : ∀ a b : List E, sameEs a b = eqL sameE a b
  | [], [] => by rw [sameEs, eqL]
  | x :: a, y :: b => by rw [sameEs, eqL, sameEs_eq a b]
  | [], _ :: _ => by rw [sameEs, eqL]
  | _ :: _, [] => by rw [sameEs, eqL]
theorem sameTs_eq : ∀ a b : List T, sameTs a b = eqL sameT a b
  | [], [] => by rw [sameTs, eqL]
  | x :: a, y :: b => by rw [sameTs, eqL, sameTs_eq a b]
  | [], _ :: _ => by rw [sameTs, eqL]
  | _ :: _, [] => by rw [sameTs, eqL]
theorem sameE_eq (a b : E) : sameE a b = ((a.k == b.k) && ((a.n == b.n) && (decide (a.name = b.name) && (decide (a.names = b.names) && (decide (a.odds = b.odds) && eqL sameE a.kids b.kids))))) := by
  cases a; cases b
  rw [sameE, sameEs_eq]
  rfl
theorem sameT_eq (a b : T) : sameT a b = ((a.k == b.k) && eqL sameT a.l b.l) := by
  cases a; cases b
  rw [sameT, sameTs_eq]
  rfl
def sameF (a b : Fld) : Bool := decide (a.name = b.name) && sameT a.typ b.typ
def sameFn (a b : Fnc) : Bool := decide (a.name = b.name) && (eqL sameF a.params b.params && (sameT a.res b.res && sameE a.body b.body))
def sameP (a b : Pg) : Bool := eqL sameF a.inputs b.inputs && (eqL sameFn a.funs b.funs && sameE a.query b.query)
theorem eqL_eq {α : Type} [DecidableEq α] : ∀ a b : List α, eqL (fun x y => decide (x = y)) a b = decide (a = b)
  | [], [] => by simp [eqL]
  | x :: a, y :: b => by rw [eqL, eqL_eq a b]; simp
  | [], _ :: _ => by simp [eqL]
  | _ :: _, [] => by simp [eqL]
/-! Alike but for places is the same. -/
mutual
theorem sameE_alike : ∀ a b : E, sE a = sE b → sameE a b = true
  | .mk k n s ns os ks _ _, .mk k' n' s' ns' os' ks' _ _, h => by
    rw [sE_mk, sE_mk] at h
    injection h with h1 h2 h3 h4 h5 h6
    rw [sameE, h1, h2, h3, h4, h5, sameEs_alike ks ks' h6]
    simp
theorem sameEs_alike : ∀ a b : List E, sEs a = sEs b → sameEs a b = true
  | [], [], _ => by rw [sameEs]
  | x :: a, y :: b, h => by
    rw [sEs_cons, sEs_cons] at h
    injection h with h1 h2
    rw [sameEs, sameE_alike x y h1, sameEs_alike a b h2]
    rfl
  | [], y :: b, h => by rw [sEs_nil, sEs_cons] at h; cases h
  | x :: a, [], h => by rw [sEs_nil, sEs_cons] at h; cases h
end
mutual
theorem sameT_self : ∀ a : T, sameT a a = true
  | .mk k l => by rw [sameT, sameTs_self l]; simp
theorem sameTs_self : ∀ a : List T, sameTs a a = true
  | [] => by rw [sameTs]
  | x :: a => by rw [sameTs, sameT_self x, sameTs_self a]; rfl
end
theorem sameF_alike {a b : Fld} (h : sF a = sF b) : sameF a b = true := by
  unfold sF at h
  injection h with h1 h2
  unfold sameF
  rw [h1, h2, sameT_self]
  simp
theorem eqL_alike {α : Type} {f : α → α → Bool} {s : α → α} (H : ∀ a b, s a = s b → f a b = true) : ∀ a b : List α, a.map s = b.map s → eqL f a b = true
  | [], [], _ => rfl
  | x :: a, y :: b, h => by
    rw [List.map_cons, List.map_cons] at h
    injection h with h1 h2
    rw [eqL, H x y h1, eqL_alike H a b h2]
    rfl
  | [], _ :: _, h => by cases h
  | _ :: _, [], h => by cases h
theorem sameFn_alike {a b : Fnc} (h : sFn a = sFn b) : sameFn a b = true := by
  unfold sFn at h
  injection h with h1 h2 h3 h4
  unfold sameFn
  rw [h1, h3, sameT_self, eqL_alike (f := sameF) (fun a b h => sameF_alike h) _ _ h2, sameE_alike _ _ h4]
  simp
theorem sameP_alike {a b : Pg} (h : sP a = sP b) : sameP a b = true := by
  unfold sP at h
  injection h with h1 h2 h3
  unfold sameP
  rw [eqL_alike (f := sameF) (fun a b h => sameF_alike h) _ _ h1, eqL_alike (f := sameFn) (fun a b h => sameFn_alike h) _ _ h2, sameE_alike _ _ h3]
  rfl
end Go.Proofs.Ytbmcafehpgimfaa.Px
namespace Go.Proofs.Ytbmcafehpgimfaa.Ps
set_option linter.unusedVariables false
set_option linter.unusedSimpArgs false
open Go Go.RowKit Px
open Lx (Tok)

theorem strs_at (ks : List (List UInt8)) (i : Nat) (h : i < ks.length) : (strs ks).getD i [] = [D.str (bx ks[i])] := by
  unfold strs
  rw [rows_getD _ _ _ h, List.getD_eq_getElem?_getD, List.getElem?_eq_getElem h]
  rfl
theorem ints_at (ks : List Int) (i : Nat) (h : i < ks.length) : (ints ks).getD i [] = [D.int IntKind.i64 ks[i]] := by
  unfold ints
  rw [rows_getD _ _ _ h, List.getD_eq_getElem?_getD, List.getElem?_eq_getElem h]
  rfl
theorem beqL_bx (a b : List UInt8) : beqL (bx a).data.toList (bx b).data.toList = decide (a = b) := by
  rw [beqL_eq]
  have e : ∀ l : List UInt8, (bx l).data.toList = l := fun l => by show l.toArray.toList = l; simp
  rw [e, e]
  by_cases h : a = b
  · rw [decide_eq_true h, h]; simp
  · rw [decide_eq_false h]; simpa using h
/-! No list is longer than any list can be. -/
mutual
def LenE : E → Prop
  | .mk _ _ _ ns os ks _ _ => (ns.length ≤ 9223372036854775807 ∧ os.length ≤ 9223372036854775807 ∧ ks.length ≤ 9223372036854775807) ∧ LenEs ks
def LenEs : List E → Prop
  | [] => True
  | x :: r => LenE x ∧ LenEs r
end
mutual
def LenT : T → Prop
  | .mk _ l => l.length ≤ 9223372036854775807 ∧ LenTs l
def LenTs : List T → Prop
  | [] => True
  | x :: r => LenT x ∧ LenTs r
end
structure LenFn (f : Fnc) : Prop where
  par : f.params.length ≤ 9223372036854775807
  typ : ∀ x ∈ f.params, LenT x.typ
  res : LenT f.res
  body : LenE f.body
structure LenP (p : Pg) : Prop where
  inl : p.inputs.length ≤ 9223372036854775807
  inp : ∀ x ∈ p.inputs, LenT x.typ
  fl : p.funs.length ≤ 9223372036854775807
  fn : ∀ x ∈ p.funs, LenFn x
  query : LenE p.query
mutual
theorem lenE_of : ∀ e : E, wE e ≤ 9223372036854775807 → LenE e
  | .mk k n s ns os ks a b, h => by
    rw [wE] at h
    rw [LenE]
    have := wEs_len ks
    exact ⟨⟨by omega, by omega, by omega⟩, lenEs_of ks (by omega)⟩
theorem lenEs_of : ∀ l : List E, wEs l ≤ 9223372036854775807 → LenEs l
  | [], _ => by rw [LenEs]; trivial
  | x :: r, h => by
    rw [wEs] at h
    rw [LenEs]
    exact ⟨lenE_of x (by omega), lenEs_of r (by omega)⟩
end
mutual
theorem lenT_of : ∀ t : T, wT t ≤ 9223372036854775807 → LenT t
  | .mk k l, h => by
    rw [wT] at h
    rw [LenT]
    have := wTs_len l
    exact ⟨by omega, lenTs_of l (by omega)⟩
theorem lenTs_of : ∀ l : List T, wTs l ≤ 9223372036854775807 → LenTs l
  | [], _ => by rw [LenTs]; trivial
  | x :: r, h => by
    rw [wTs] at h
    rw [LenTs]
    exact ⟨lenT_of x (by omega), lenTs_of r (by omega)⟩
end
theorem eqL_drop {α : Type} (f : α → α → Bool) (a b : List α) (i : Nat) (ha : i < a.length) (hb : i < b.length) : eqL f (a.drop i) (b.drop i) = (f a[i] b[i] && eqL f (a.drop (i + 1)) (b.drop (i + 1))) := by
  rw [List.drop_eq_getElem_cons ha, List.drop_eq_getElem_cons hb, eqL]
theorem eqL_end {α : Type} (f : α → α → Bool) (a b : List α) (i : Nat) (ha : a.length ≤ i) (hb : b.length ≤ i) : eqL f (a.drop i) (b.drop i) = true := by
  rw [List.drop_eq_nil_of_le ha, List.drop_eq_nil_of_le hb, eqL]
theorem ne_len {a b : Nat} (h : a ≠ b) : (Int.ofNat a != Int.ofNat b) = true := by
  rw [bne, Bool.not_eq_true', beq_eq_false_iff_ne]
  exact fun e => h (Int.ofNat.inj e)
theorem ne_len' {a b : Nat} (h : a = b) : (Int.ofNat a != Int.ofNat b) = false := by rw [h]; simp
/-- The loop of a comparison of lists: one step for each pair. -/
theorem cmp_loop {α : Type} (f : α → α → Bool) (a b : List α) (hab : a.length = b.length) (ha : a.length ≤ 9223372036854775807) {F : Nat → Nat → Nat → Nat → Option Out}
    {z : Bool} (hend : Ev (fun m k n => F (m + 1) k n a.length) (RV (V.one (bX z))))
    (hstep : ∀ i (h : i < a.length), ∀ r : Bool, Ev (fun m k n => F m k n (i + 1)) (RV (V.one (bX r))) → Ev (fun m k n => F (m + 1) k n i) (RV (V.one (bX (f a[i] b[i] && r))))) :
    ∀ d i, i ≤ a.length → a.length - i = d → Ev (fun m k n => F m k n i) (RV (V.one (bX (eqL f (a.drop i) (b.drop i) && z)))) := by
  intro d
  induction d with
  | zero =>
    intro i hi hd
    obtain rfl : i = a.length := by omega
    rw [eqL_end f a b _ (Nat.le_refl _) (by omega), Bool.true_and]
    exact Ev.step hend
  | succ d ih =>
    intro i hi hd
    have hlt : i < a.length := by omega
    rw [eqL_drop f a b i hlt (by omega), Bool.and_assoc]
    exact Ev.step (hstep i hlt _ (ih (i + 1) (by omega) (by omega)))
theorem C_names (a b : List (List UInt8)) (ha : a.length ≤ 9223372036854775807) : Cal 32 [V.one (X.d (D.list 1 (strs a))), V.one (X.d (D.list 1 (strs b)))] [] (RV (V.one (bX (decide (a = b))))) := by
  refine call32 _ _ ?_
  simp only [e32_eq, strs_len]
  rw [← eqL_eq]
  by_cases h : a.length = b.length
  · refine Ev.no (ne_len' h) ?_
    simp only [q32_0_eq, strs_len]
    have := cmp_loop (fun x y : List UInt8 => decide (x = y)) a b h ha (F := fun m k n i => l32_0 m (Ak k) n (strs a) (strs b) (Int.ofNat a.length) (Int.ofNat i)) (by
        simp only [l32_0_eq]
        exact Ev.no (lt_no _ _ (Nat.le_refl _)) (Ev.of fun m k n => by rw [q32_3_eq])) (fun i hi r hr => by
        simp only [l32_0_eq]
        refine Ev.yes (lt_yes i _ hi) ?_
        simp only [q32_1_eq, tn, strs_at a i hi, strs_at b i (show i < b.length by omega), strs_len]
        refine Ev.yes (in_range i _ hi) (Ev.yes (in_range i _ (by omega)) (Ev.yes rfl (Ev.yes rfl ?_)))
        show Ev (fun m k n => bif !beqL (bx a[i]).data.toList (bx b[i]).data.toList then _ else _) _
        rw [beqL_bx]
        cases decide (a[i] = b[i]) with
        | false => exact Ev.yes rfl (Ev.ret _)
        | true =>
          refine Ev.no rfl ?_
          simp only [q32_2_eq, wrap_up i (show i < 9223372036854775807 by omega)]
          exact hr) _ 0 (Nat.zero_le _) rfl
    rw [Bool.and_true] at this
    exact Ev.diag this
  · rw [eqL_len _ _ _ h]
    exact Ev.yes (ne_len h) (Ev.ret _)
theorem C_odds (a b : List Int) (ha : a.length ≤ 9223372036854775807) : Cal 33 [V.one (X.d (D.list 1 (ints a))), V.one (X.d (D.list 1 (ints b)))] [] (RV (V.one (bX (decide (a = b))))) := by
  refine call33 _ _ ?_
  simp only [e33_eq, ints_len]
  rw [← eqL_eq]
  by_cases h : a.length = b.length
  · refine Ev.no (ne_len' h) ?_
    simp only [q33_0_eq, ints_len]
    have := cmp_loop (fun x y : Int => decide (x = y)) a b h ha (F := fun m k n i => l33_0 m (Ak k) n (ints a) (ints b) (Int.ofNat a.length) (Int.ofNat i)) (by
        simp only [l33_0_eq]
        exact Ev.no (lt_no _ _ (Nat.le_refl _)) (Ev.of fun m k n => by rw [q33_3_eq])) (fun i hi r hr => by
        simp only [l33_0_eq]
        refine Ev.yes (lt_yes i _ hi) ?_
        simp only [q33_1_eq, tn, ints_at a i hi, ints_at b i (show i < b.length by omega), ints_len]
        refine Ev.yes (in_range i _ hi) (Ev.yes (in_range i _ (by omega)) (Ev.yes rfl (Ev.yes rfl ?_)))
        show Ev (fun m k n => bif a[i] != b[i] then _ else _) _
        by_cases hab : a[i] = b[i]
        · rw [decide_eq_true hab]
          refine Ev.no (by rw [hab]; simp) ?_
          simp only [q33_2_eq, wrap_up i (show i < 9223372036854775807 by omega)]
          exact hr
        · rw [decide_eq_false hab]
          exact Ev.yes (by simpa using hab) (Ev.ret _)) _ 0 (Nat.zero_le _) rfl
    rw [Bool.and_true] at this
    exact Ev.diag this
  · rw [eqL_len _ _ _ h]
    exact Ev.yes (ne_len h) (Ev.ret _)
def fdV (f : Fld) : V := V.agg [X.d (D.str (bx f.name)), X.d (D.int IntKind.i64 f.typ.k), X.d (D.list 2 (T.rows f.typ.l)), X.d (D.int IntKind.i64 f.line), X.d (D.int IntKind.i64 f.col)]
theorem C_kids (a b : List E) (ha : a.length ≤ 9223372036854775807) (H : ∀ x ∈ a, ∀ y, Cal 15 [eV x, eV y] [] (RV (V.one (bX (sameE x y))))) :
    Cal 34 [V.one (X.d (D.list 8 (E.rows a))), V.one (X.d (D.list 8 (E.rows b))), V.one (X.fn 15 [])] [] (RV (V.one (bX (eqL sameE a b)))) := by
  refine call34f15 _ _ ?_
  simp only [e34f15_eq, E.rows_len]
  by_cases h : a.length = b.length
  · refine Ev.no (ne_len' h) ?_
    simp only [q34_0_eq, E.rows_len]
    have := cmp_loop sameE a b h ha (F := fun m k n i => l34_0 m (Ak k) n (E.rows b) (E.rows a) (Int.ofNat a.length) (Int.ofNat i)) (by
        simp only [l34_0_eq]
        exact Ev.no (lt_no _ _ (Nat.le_refl _)) (Ev.of fun m k n => by rw [q34_3_eq])) (fun i hi r hr => by
        simp only [l34_0_eq]
        refine Ev.yes (lt_yes i _ hi) ?_
        simp only [q34_1_eq, tn, E.rows_at a i hi, E.rows_at b i (show i < b.length by omega), E.row_eq, E.rows_len]
        refine Ev.yes (in_range i _ hi) (Ev.yes (in_range i _ (by omega)) ?_)
        refine v_oB (H a[i] (List.getElem_mem hi) b[i]) ?_
        cases sameE a[i] b[i] with
        | false => exact Ev.yes rfl (Ev.ret _)
        | true =>
          refine Ev.no rfl ?_
          simp only [q34_2_eq, wrap_up i (show i < 9223372036854775807 by omega)]
          exact hr) _ 0 (Nat.zero_le _) rfl
    rw [Bool.and_true] at this
    exact Ev.diag this
  · rw [eqL_len _ _ _ h]
    exact Ev.yes (ne_len h) (Ev.ret _)
theorem C_types (a b : List T) (ha : a.length ≤ 9223372036854775807) (H : ∀ x ∈ a, ∀ y, Cal 41 [tV x, tV y] [] (RV (V.one (bX (sameT x y))))) :
    Cal 71 [V.one (X.d (D.list 2 (T.rows a))), V.one (X.d (D.list 2 (T.rows b))), V.one (X.fn 41 [])] [] (RV (V.one (bX (eqL sameT a b)))) := by
  refine call71f41 _ _ ?_
  simp only [e71f41_eq, T.rows_len]
  by_cases h : a.length = b.length
  · refine Ev.no (ne_len' h) ?_
    simp only [q71_0_eq, T.rows_len]
    have := cmp_loop sameT a b h ha (F := fun m k n i => l71_0 m (Ak k) n (T.rows b) (T.rows a) (Int.ofNat a.length) (Int.ofNat i)) (by
        simp only [l71_0_eq]
        exact Ev.no (lt_no _ _ (Nat.le_refl _)) (Ev.of fun m k n => by rw [q71_3_eq])) (fun i hi r hr => by
        simp only [l71_0_eq]
        refine Ev.yes (lt_yes i _ hi) ?_
        simp only [q71_1_eq, tn, T.rows_at a i hi, T.rows_at b i (show i < b.length by omega), T.row_eq, T.rows_len]
        refine Ev.yes (in_range i _ hi) (Ev.yes (in_range i _ (by omega)) ?_)
        refine v_oB (H a[i] (List.getElem_mem hi) b[i]) ?_
        cases sameT a[i] b[i] with
        | false => exact Ev.yes rfl (Ev.ret _)
        | true =>
          refine Ev.no rfl ?_
          simp only [q71_2_eq, wrap_up i (show i < 9223372036854775807 by omega)]
          exact hr) _ 0 (Nat.zero_le _) rfl
    rw [Bool.and_true] at this
    exact Ev.diag this
  · rw [eqL_len _ _ _ h]
    exact Ev.yes (ne_len h) (Ev.ret _)
mutual
theorem C_same : ∀ (a b : E), LenE a → Cal 15 [eV a, eV b] [] (RV (V.one (bX (sameE a b))))
  | .mk k n s ns os ks l c, .mk k' n' s' ns' os' ks' l' c', h => by
    rw [LenE] at h
    obtain ⟨⟨hns, hos, hks⟩, hkk⟩ := h
    have H := C_sameAll ks hkk
    rw [sameE_eq]
    refine call15 _ _ _ _ _ _ _ _ _ _ _ _ _ _ _ _ ?_
    simp only [e15_eq]
    show Ev _ (RV (V.one (bX ((k == k') && ((n == n') && (decide (s = s') && (decide (ns = ns') && (decide (os = os') && eqL sameE ks ks'))))))))
    cases h1 : k == k' with
    | false => exact Ev.no h1 (Ev.ret _)
    | true =>
    refine Ev.yes h1 ?_
    cases h2 : n == n' with
    | false => exact Ev.no h2 (Ev.ret _)
    | true =>
    refine Ev.yes h2 ?_
    have h3 := beqL_bx s s'
    cases h4 : decide (s = s') with
    | false => exact Ev.no (h3.trans h4) (Ev.ret _)
    | true =>
    refine Ev.yes (h3.trans h4) ?_
    refine v_oB (C_names ns ns' hns) ?_
    cases h5 : decide (ns = ns') with
    | false => exact Ev.no rfl (Ev.ret _)
    | true =>
    refine Ev.yes rfl ?_
    refine v_oB (C_odds os os' hos) ?_
    cases h6 : decide (os = os') with
    | false => exact Ev.no rfl (Ev.ret _)
    | true =>
    refine Ev.yes rfl ?_
    exact v_oB (C_kids ks ks' hks H) (Ev.ret _)
theorem C_sameAll : ∀ (ks : List E), LenEs ks → ∀ x ∈ ks, ∀ y, Cal 15 [eV x, eV y] [] (RV (V.one (bX (sameE x y))))
  | [], _, x, hx, _ => by cases hx
  | z :: r, hs, x, hx, y => by
    rw [LenEs] at hs
    rcases List.mem_cons.1 hx with h | h
    · rw [h]; exact C_same z y hs.1
    · exact C_sameAll r hs.2 x h y
end
mutual
theorem C_sameT : ∀ (a b : T), LenT a → Cal 41 [tV a, tV b] [] (RV (V.one (bX (sameT a b))))
  | .mk k l, .mk k' l', h => by
    rw [LenT] at h
    obtain ⟨hls, hll⟩ := h
    have H := C_sameTAll l hll
    rw [sameT_eq]
    refine call41 _ _ _ _ ?_
    simp only [e41_eq]
    show Ev _ (RV (V.one (bX ((k == k') && eqL sameT l l'))))
    cases h1 : k == k' with
    | false => exact Ev.no h1 (Ev.ret _)
    | true =>
    refine Ev.yes h1 ?_
    exact v_oB (C_types l l' hls H) (Ev.ret _)
theorem C_sameTAll : ∀ (ks : List T), LenTs ks → ∀ x ∈ ks, ∀ y, Cal 41 [tV x, tV y] [] (RV (V.one (bX (sameT x y))))
  | [], _, x, hx, _ => by cases hx
  | z :: r, hs, x, hx, y => by
    rw [LenTs] at hs
    rcases List.mem_cons.1 hx with h | h
    · rw [h]; exact C_sameT z y hs.1
    · exact C_sameTAll r hs.2 x h y
end
theorem C_sameF (a b : Fld) (h : LenT a.typ) : Cal 38 [fdV a, fdV b] [] (RV (V.one (bX (sameF a b)))) := by
  refine call38 _ _ _ _ _ _ _ _ _ _ ?_
  simp only [e38_eq]
  unfold sameF
  have h3 := beqL_bx a.name b.name
  cases h4 : decide (a.name = b.name) with
  | false => exact Ev.no (h3.trans h4) (Ev.ret _)
  | true =>
  refine Ev.yes (h3.trans h4) ?_
  exact v_oB (C_sameT a.typ b.typ h) (Ev.ret _)
theorem Fld.row_eq (f : Fld) : Fld.row f = [D.str (bx f.name), D.int IntKind.i64 f.typ.k, D.list 2 (T.rows f.typ.l), D.int IntKind.i64 f.line, D.int IntKind.i64 f.col] := rfl
theorem C_flds (a b : List Fld) (ha : a.length ≤ 9223372036854775807) (H : ∀ x ∈ a, ∀ y, Cal 38 [fdV x, fdV y] [] (RV (V.one (bX (sameF x y))))) :
    Cal 37 [V.one (X.d (D.list 5 (Fld.rows a))), V.one (X.d (D.list 5 (Fld.rows b))), V.one (X.fn 38 [])] [] (RV (V.one (bX (eqL sameF a b)))) := by
  refine call37f38 _ _ ?_
  simp only [e37f38_eq, Fld.rows_len]
  by_cases h : a.length = b.length
  · refine Ev.no (ne_len' h) ?_
    simp only [q37_0_eq, Fld.rows_len]
    have := cmp_loop sameF a b h ha (F := fun m k n i => l37_0 m (Ak k) n (Fld.rows b) (Fld.rows a) (Int.ofNat a.length) (Int.ofNat i)) (by
        simp only [l37_0_eq]
        exact Ev.no (lt_no _ _ (Nat.le_refl _)) (Ev.of fun m k n => by rw [q37_3_eq])) (fun i hi r hr => by
        simp only [l37_0_eq]
        refine Ev.yes (lt_yes i _ hi) ?_
        simp only [q37_1_eq, tn, Fld.rows_at a i hi, Fld.rows_at b i (show i < b.length by omega), Fld.row_eq, Fld.rows_len]
        refine Ev.yes (in_range i _ hi) (Ev.yes (in_range i _ (by omega)) ?_)
        refine v_oB (H a[i] (List.getElem_mem hi) b[i]) ?_
        cases sameF a[i] b[i] with
        | false => exact Ev.yes rfl (Ev.ret _)
        | true =>
          refine Ev.no rfl ?_
          simp only [q37_2_eq, wrap_up i (show i < 9223372036854775807 by omega)]
          exact hr) _ 0 (Nat.zero_le _) rfl
    rw [Bool.and_true] at this
    exact Ev.diag this
  · rw [eqL_len _ _ _ h]
    exact Ev.yes (ne_len h) (Ev.ret _)
def fncV (f : Fnc) : V := V.agg [X.d (D.str (bx f.name)), X.d (D.list 5 (Fld.rows f.params)), X.d (D.int IntKind.i64 f.res.k), X.d (D.list 2 (T.rows f.res.l)), X.d (D.int IntKind.i64 f.body.k), X.d (D.int IntKind.i64 f.body.n), X.d (D.str (bx f.body.name)), X.d (D.list 1 (strs f.body.names)), X.d (D.list 1 (ints f.body.odds)), X.d (D.list 8 (E.rows f.body.kids)), X.d (D.int IntKind.i64 f.body.line), X.d (D.int IntKind.i64 f.body.col), X.d (D.int IntKind.i64 f.line), X.d (D.int IntKind.i64 f.col)]
theorem C_sameFn (a b : Fnc) (h : LenFn a) : Cal 40 [fncV a, fncV b] [] (RV (V.one (bX (sameFn a b)))) := by
  refine call40 _ _ _ _ _ _ _ _ _ _ _ _ _ _ _ _ _ _ _ _ _ _ _ _ _ _ _ _ ?_
  simp only [e40_eq]
  unfold sameFn
  have h3 := beqL_bx a.name b.name
  cases h4 : decide (a.name = b.name) with
  | false => exact Ev.no (h3.trans h4) (Ev.ret _)
  | true =>
  refine Ev.yes (h3.trans h4) ?_
  refine v_oB (C_flds a.params b.params h.par fun x hx y => C_sameF x y (h.typ x hx)) ?_
  cases h5 : eqL sameF a.params b.params with
  | false => exact Ev.no rfl (Ev.ret _)
  | true =>
  refine Ev.yes rfl ?_
  refine v_oB (C_sameT a.res b.res h.res) ?_
  cases h6 : sameT a.res b.res with
  | false => exact Ev.no rfl (Ev.ret _)
  | true =>
  refine Ev.yes rfl ?_
  exact v_oB (C_same a.body b.body h.body) (Ev.ret _)
theorem C_fns (a b : List Fnc) (ha : a.length ≤ 9223372036854775807) (H : ∀ x ∈ a, ∀ y, Cal 40 [fncV x, fncV y] [] (RV (V.one (bX (sameFn x y))))) :
    Cal 39 [V.one (X.d (D.list 14 (Fnc.rows a))), V.one (X.d (D.list 14 (Fnc.rows b))), V.one (X.fn 40 [])] [] (RV (V.one (bX (eqL sameFn a b)))) := by
  refine call39f40 _ _ ?_
  simp only [e39f40_eq, Fnc.rows_len]
  by_cases h : a.length = b.length
  · refine Ev.no (ne_len' h) ?_
    simp only [q39_0_eq, Fnc.rows_len]
    have := cmp_loop sameFn a b h ha (F := fun m k n i => l39_0 m (Ak k) n (Fnc.rows b) (Fnc.rows a) (Int.ofNat a.length) (Int.ofNat i)) (by
        simp only [l39_0_eq]
        exact Ev.no (lt_no _ _ (Nat.le_refl _)) (Ev.of fun m k n => by rw [q39_3_eq])) (fun i hi r hr => by
        simp only [l39_0_eq]
        refine Ev.yes (lt_yes i _ hi) ?_
        simp only [q39_1_eq, tn, Fnc.rows_at a i hi, Fnc.rows_at b i (show i < b.length by omega), Fnc.row_eq, Fnc.rows_len]
        refine Ev.yes (in_range i _ hi) (Ev.yes (in_range i _ (by omega)) ?_)
        refine v_oB (H a[i] (List.getElem_mem hi) b[i]) ?_
        cases sameFn a[i] b[i] with
        | false => exact Ev.yes rfl (Ev.ret _)
        | true =>
          refine Ev.no rfl ?_
          simp only [q39_2_eq, wrap_up i (show i < 9223372036854775807 by omega)]
          exact hr) _ 0 (Nat.zero_le _) rfl
    rw [Bool.and_true] at this
    exact Ev.diag this
  · rw [eqL_len _ _ _ h]
    exact Ev.yes (ne_len h) (Ev.ret _)
theorem C_sameP (a b : Pg) (h : LenP a) : Cal 17 [pV a, pV b] [] (RV (V.one (bX (sameP a b)))) := by
  refine call17 _ _ _ _ _ _ _ _ _ _ _ _ _ _ _ _ _ _ _ _ ?_
  simp only [e17_eq]
  unfold sameP
  refine v_oB (C_flds a.inputs b.inputs h.inl fun x hx y => C_sameF x y (h.inp x hx)) ?_
  cases h5 : eqL sameF a.inputs b.inputs with
  | false => exact Ev.no rfl (Ev.ret _)
  | true =>
  refine Ev.yes rfl ?_
  refine v_oB (C_fns a.funs b.funs h.fl fun x hx y => C_sameFn x y (h.fn x hx)) ?_
  cases h6 : eqL sameFn a.funs b.funs with
  | false => exact Ev.no rfl (Ev.ret _)
  | true =>
  refine Ev.yes rfl ?_
  exact v_oB (C_same a.query b.query h.query) (Ev.ret _)
end Go.Proofs.Ytbmcafehpgimfaa.Ps
namespace Go.Proofs.Ytbmcafehpgimfaa.Ps
set_option linter.unusedVariables false
set_option linter.unusedSimpArgs false
open Go Go.RowKit Px
open Lx (Tok)

abbrev SomeI (f : FuncId) (args : List V) : Prop := ∃ v : Int, Cal f args [] (RV (V.one (iX v)))
theorem L_size (e : E) (hk : e.kids.length ≤ 9223372036854775807) (most : Int) (H : ∀ x ∈ e.kids, ∀ n, SomeI 69 [eV x, V.one (iX n), V.one (iX most)]) : ∀ (d i : Nat), i ≤ e.kids.length → e.kids.length - i = d → ∀ n : Int,
    ∃ v : Int, Ev (fun m k n' => l69_0 m (Ak k) n' n most (Int.ofNat i) e.k e.n (bx e.name) (strs e.names) (ints e.odds) (E.rows e.kids) e.line e.col) (RV (V.one (iX v))) := by
  intro d
  induction d with
  | zero =>
    intro i hi hd n
    refine ⟨n, Ev.step ?_⟩
    simp only [l69_0_eq, E.rows_len]
    exact Ev.no (lt_no i _ (by omega)) (Ev.of fun m k n' => by rw [q69_2_eq])
  | succ d ih =>
    intro i hi hd n
    have hlt : i < e.kids.length := by omega
    by_cases hn : n ≤ most
    · obtain ⟨v, hv⟩ := H e.kids[i] (List.getElem_mem hlt) n
      obtain ⟨w, hw⟩ := ih (i + 1) (by omega) (by omega) v
      refine ⟨w, Ev.step ?_⟩
      simp only [l69_0_eq, E.rows_len]
      refine Ev.yes (lt_yes i _ hlt) (Ev.yes (decide_eq_true hn) ?_)
      simp only [q69_0_eq, tn, E.rows_at e.kids i hlt, E.row_eq, E.rows_len]
      refine Ev.yes (in_range i _ hlt) (v_oI hv ?_)
      simp only [q69_1_eq, wrap_up i (show i < 9223372036854775807 by omega)]
      exact hw
    · refine ⟨n, Ev.step ?_⟩
      simp only [l69_0_eq, E.rows_len]
      exact Ev.yes (lt_yes i _ hlt) (Ev.no (decide_eq_false hn) (Ev.of fun m k n' => by rw [q69_2_eq]))
mutual
theorem C_size : ∀ (e : E), LenE e → ∀ n most : Int, SomeI 69 [eV e, V.one (iX n), V.one (iX most)]
  | .mk k c s ns os ks a b, h => fun n most => by
    rw [LenE] at h
    obtain ⟨⟨_, _, hks⟩, hkk⟩ := h
    have H := C_sizes ks hkk
    obtain ⟨v, hv⟩ := L_size (.mk k c s ns os ks a b) hks most (fun x hx n => H x hx n most) _ 0 (Nat.zero_le _) rfl (IntKind.wrap .i64 (IntKind.wrap .i64 (IntKind.wrap .i64 (n + 1) + Int.ofNat (strs ns).length) + Int.ofNat (ints os).length))
    refine ⟨v, call69 _ _ _ _ _ _ _ _ _ _ ?_⟩
    simp only [e69_eq]
    exact Ev.diag hv
theorem C_sizes : ∀ (ks : List E), LenEs ks → ∀ x ∈ ks, ∀ n most : Int, SomeI 69 [eV x, V.one (iX n), V.one (iX most)]
  | [], _, x, hx => by cases hx
  | z :: r, hs, x, hx => by
    rw [LenEs] at hs
    rcases List.mem_cons.1 hx with h | h
    · rw [h]; exact C_size z hs.1
    · exact C_sizes r hs.2 x h
end
theorem L_tsize (k₀ : Int) (l : List T) (hk : l.length ≤ 9223372036854775807) (most : Int) (H : ∀ x ∈ l, ∀ n, SomeI 70 [tV x, V.one (iX n), V.one (iX most)]) : ∀ (d i : Nat), i ≤ l.length → l.length - i = d → ∀ n : Int,
    ∃ v : Int, Ev (fun m k n' => l70_0_v1 m (Ak k) n' n most (Int.ofNat i) k₀ (T.rows l)) (RV (V.one (iX v))) := by
  intro d
  induction d with
  | zero =>
    intro i hi hd n
    refine ⟨n, Ev.step ?_⟩
    simp only [l70_0_v1_eq, T.rows_len]
    exact Ev.no (lt_no i _ (by omega)) (Ev.of fun m k n' => by rw [q70_2_eq])
  | succ d ih =>
    intro i hi hd n
    have hlt : i < l.length := by omega
    by_cases hn : n ≤ most
    · obtain ⟨v, hv⟩ := H l[i] (List.getElem_mem hlt) n
      obtain ⟨w, hw⟩ := ih (i + 1) (by omega) (by omega) v
      refine ⟨w, Ev.step ?_⟩
      simp only [l70_0_v1_eq, T.rows_len]
      refine Ev.yes (lt_yes i _ hlt) (Ev.yes (decide_eq_true hn) ?_)
      simp only [q70_0_eq, tn, T.rows_at l i hlt, T.row_eq, T.rows_len]
      refine Ev.yes (in_range i _ hlt) (v_oI hv ?_)
      simp only [q70_1_eq, wrap_up i (show i < 9223372036854775807 by omega)]
      exact hw
    · refine ⟨n, Ev.step ?_⟩
      simp only [l70_0_v1_eq, T.rows_len]
      exact Ev.yes (lt_yes i _ hlt) (Ev.no (decide_eq_false hn) (Ev.of fun m k n' => by rw [q70_2_eq]))
mutual
theorem C_tsize : ∀ (t : T), LenT t → ∀ n most : Int, SomeI 70 [tV t, V.one (iX n), V.one (iX most)]
  | .mk k l, h => fun n most => by
    rw [LenT] at h
    obtain ⟨hks, hkk⟩ := h
    have H := C_tsizes l hkk
    obtain ⟨v, hv⟩ := L_tsize k l hks most (fun x hx n => H x hx n most) _ 0 (Nat.zero_le _) rfl (IntKind.wrap .i64 (n + 1))
    refine ⟨v, call70_v1 _ _ _ _ ?_⟩
    simp only [e70_v1_eq]
    exact Ev.diag hv
theorem C_tsizes : ∀ (ks : List T), LenTs ks → ∀ x ∈ ks, ∀ n most : Int, SomeI 70 [tV x, V.one (iX n), V.one (iX most)]
  | [], _, x, hx => by cases hx
  | z :: r, hs, x, hx => by
    rw [LenTs] at hs
    rcases List.mem_cons.1 hx with h | h
    · rw [h]; exact C_tsize z hs.1
    · exact C_tsizes r hs.2 x h
end
abbrev SomeB (f : FuncId) (args : List V) : Prop := ∃ v : Bool, Cal f args [] (RV (V.one (bX v)))
theorem C_few (most : Int) (es : List E) (hl : es.length ≤ 1000000) (H : ∀ x ∈ es, LenE x) : SomeB 30 [V.one (iX most), V.one (X.d (D.list 8 (E.rows es)))] := by
  have key : ∀ (d i : Nat), i ≤ es.length → es.length - i = d → ∀ n : Int, ∃ v : Bool, Ev (fun m k n' => l30_0 m (Ak k) n' most (E.rows es) n (Int.ofNat i)) (RV (V.one (bX v))) := by
    intro d
    induction d with
    | zero =>
      intro i hi hd n
      refine ⟨decide (n ≤ most), Ev.step ?_⟩
      simp only [l30_0_eq, E.rows_len]
      exact Ev.no (lt_no i _ (by omega)) (Ev.of fun m k n' => by rw [q30_2_eq])
    | succ d ih =>
      intro i hi hd n
      have hlt : i < es.length := by omega
      obtain ⟨v, hv⟩ := C_size es[i] (H _ (List.getElem_mem hlt)) n most
      obtain ⟨w, hw⟩ := ih (i + 1) (by omega) (by omega) v
      refine ⟨w, Ev.step ?_⟩
      simp only [l30_0_eq, E.rows_len]
      refine Ev.yes (lt_yes i _ hlt) ?_
      simp only [q30_0_eq, tn, E.rows_at es i hlt, E.row_eq, E.rows_len]
      refine Ev.yes (in_range i _ hlt) (v_oI hv ?_)
      simp only [q30_1_eq, wrap_up i (show i < 9223372036854775807 by omega)]
      exact hw
  obtain ⟨v, hv⟩ := key _ 0 (Nat.zero_le _) rfl 0
  refine ⟨v, call30 _ _ ?_⟩
  simp only [e30_eq]
  exact Ev.diag hv
theorem C_fewT (most : Int) (ts : List T) (hl : ts.length ≤ 1000000) (H : ∀ x ∈ ts, LenT x) : SomeB 31 [V.one (iX most), V.one (X.d (D.list 2 (T.rows ts)))] := by
  have key : ∀ (d i : Nat), i ≤ ts.length → ts.length - i = d → ∀ n : Int, ∃ v : Bool, Ev (fun m k n' => l31_0_v1 m (Ak k) n' most (T.rows ts) n (Int.ofNat i)) (RV (V.one (bX v))) := by
    intro d
    induction d with
    | zero =>
      intro i hi hd n
      refine ⟨decide (n ≤ most), Ev.step ?_⟩
      simp only [l31_0_v1_eq, T.rows_len]
      exact Ev.no (lt_no i _ (by omega)) (Ev.of fun m k n' => by rw [q31_2_eq])
    | succ d ih =>
      intro i hi hd n
      have hlt : i < ts.length := by omega
      obtain ⟨v, hv⟩ := C_tsize ts[i] (H _ (List.getElem_mem hlt)) n most
      obtain ⟨w, hw⟩ := ih (i + 1) (by omega) (by omega) v
      refine ⟨w, Ev.step ?_⟩
      simp only [l31_0_v1_eq, T.rows_len]
      refine Ev.yes (lt_yes i _ hlt) ?_
      simp only [q31_0_v1_eq, tn, T.rows_at ts i hlt, T.row_eq, T.rows_len]
      refine Ev.yes (in_range i _ hlt) (v_oI hv ?_)
      simp only [q31_1_v1_eq, wrap_up i (show i < 9223372036854775807 by omega)]
      exact hw
  obtain ⟨v, hv⟩ := key _ 0 (Nat.zero_le _) rfl 0
  refine ⟨v, call31_v1 _ _ ?_⟩
  simp only [e31_v1_eq]
  exact Ev.diag hv
theorem C_fewN (most : Int) : SomeB 31 [V.one (iX most), V.one (X.nilL 2)] := by
  refine ⟨decide ((0 : Int) ≤ most), call31 _ ?_⟩
  simp only [e31_eq]
  have : Ev (fun m k n' => l31_0 m (Ak k) n' most 0 0) (RV (V.one (bX (decide ((0 : Int) ≤ most))))) := by
    refine Ev.step ?_
    simp only [l31_0_eq]
    exact Ev.no rfl (Ev.of fun m k n' => by rw [q31_2_eq])
  exact Ev.diag this
end Go.Proofs.Ytbmcafehpgimfaa.Ps
namespace Go.Proofs.Ytbmcafehpgimfaa.Ps
set_option linter.unusedVariables false
set_option linter.unusedSimpArgs false
open Go Go.RowKit Px
open Lx (Tok)

theorem cy {α : Type} {c : Bool} {a b o : α} (h : c = true) (h2 : a = o) : (bif c then a else b) = o := by rw [h]; exact h2
theorem cn {α : Type} {c : Bool} {a b o : α} (h : c = false) (h2 : b = o) : (bif c then a else b) = o := by rw [h]; exact h2
theorem drows (s : Nat) (r : List (List D)) : D.rows (D.list s r) = r := rfl
theorem room (n c : Nat) (hn : n ≤ 1000000) (hc : c ≤ 1000) : (true && true && true && Nat.ble ((n + 1) * c) 140737488355328) = true := by
  have := roomy n c hn hc
  rw [this]
  rfl
section
variable (p : Pg) (x0 : Int)
theorem L_fpars (Γ : Bool → SemL) (m0 n0 : Nat) (o : Option Out) (es : List E) (i : Nat) (hi : i < p.funs.length) (hl : p.funs[i].params.length ≤ 100) : ∀ (d j : Nat) (ts : List T), j ≤ p.funs[i].params.length → p.funs[i].params.length - j = d → ts.length + d ≤ 1000000 →
    q14_8 Γ m0 n0 x0 (E.rows es) (T.rows (ts ++ (p.funs[i].params.drop j).map (·.typ))) (Int.ofNat i) (Fld.rows p.inputs) (Fnc.rows p.funs) p.query.k p.query.n (bx p.query.name) (strs p.query.names) (ints p.query.odds) (E.rows p.query.kids) p.query.line p.query.col = o →
    ∀ m, d < m → l14_2 m Γ m0 n0 x0 (E.rows es) (T.rows ts) (Int.ofNat i) (Int.ofNat j) (Fld.rows p.inputs) (Fnc.rows p.funs) p.query.k p.query.n (bx p.query.name) (strs p.query.names) (ints p.query.odds) (E.rows p.query.kids) p.query.line p.query.col = o := by
  intro d
  induction d with
  | zero =>
    intro j ts hj hd ht h m hm
    obtain ⟨m, rfl⟩ : ∃ m', m = m' + 1 := ⟨m - 1, by omega⟩
    rw [List.drop_eq_nil_of_le (by omega), List.map_nil, List.append_nil] at h
    rw [l14_2_eq]
    simp only [tn, Fnc.rows_len, Fnc.rows_at p.funs i hi, Fnc.row_eq, List.getD_cons_succ, List.getD_cons_zero, drows, Fld.rows_len]
    exact cy (in_range i _ hi) (cy rfl (cn (lt_no j _ (by omega)) h))
  | succ d ih =>
    intro j ts hj hd ht h m hm
    obtain ⟨m, rfl⟩ : ∃ m', m = m' + 1 := ⟨m - 1, by omega⟩
    have hlt : j < p.funs[i].params.length := by omega
    rw [l14_2_eq]
    simp only [tn, Fnc.rows_len, Fnc.rows_at p.funs i hi, Fnc.row_eq, List.getD_cons_succ, List.getD_cons_zero, drows, Fld.rows_len]
    refine cy (in_range i _ hi) (cy rfl (cy (lt_yes j _ hlt) ?_))
    rw [q14_6_eq]
    simp only [tn, Fnc.rows_len, Fnc.rows_at p.funs i hi, Fnc.row_eq, List.getD_cons_succ, List.getD_cons_zero, drows, Fld.rows_len, Fld.rows_at p.funs[i].params j hlt, Fld.row_eq]
    refine cy (in_range i _ hi) (cy rfl (cy (in_range j _ hlt) (cy (by rw [T.rows_len]; exact room ts.length 33 (by omega) (by omega)) ?_)))
    rw [q14_7_eq, wrap_up j (show j < 9223372036854775807 by omega), ← T.rows_app]
    refine ih (j + 1) (ts ++ [p.funs[i].params[j].typ]) (by omega) (by omega) (by rw [List.length_append, List.length_singleton]; omega) ?_ m (by omega)
    rw [List.drop_eq_getElem_cons hlt, List.map_cons] at h
    rw [List.append_assoc]
    exact h
variable (h : LenP p) (hi : p.inputs.length ≤ 100) (hf : p.funs.length ≤ 100)
include h hf
theorem few_funs : ∀ (d i : Nat), i ≤ p.funs.length → p.funs.length - i = d → ∀ (es : List E) (ts : List T), es.length ≤ 1 + i → ts.length ≤ 200 + 200 * i → (∀ x ∈ es, LenE x) → (∀ x ∈ ts, LenT x) →
    ∃ v : Bool, Ev (fun m k n => l14_1_v1 m (Ak k) n x0 (E.rows es) (T.rows ts) (Int.ofNat i) (Fld.rows p.inputs) (Fnc.rows p.funs) p.query.k p.query.n (bx p.query.name) (strs p.query.names) (ints p.query.odds) (E.rows p.query.kids) p.query.line p.query.col) (RV (V.one (bX v))) := by
  intro d
  induction d with
  | zero =>
    intro i hi hd es ts he ht hee htt
    obtain ⟨b, hb⟩ := C_few x0 es (by omega) hee
    obtain ⟨c, hc⟩ := C_fewT x0 ts (by omega) htt
    refine ⟨b && c, Ev.step ?_⟩
    simp only [l14_1_v1_eq, Fnc.rows_len]
    refine Ev.no (lt_no i _ (by omega)) ?_
    simp only [q14_9_v1_eq]
    refine v_oB hb ?_
    cases b with
    | false => exact Ev.no rfl (Ev.ret _)
    | true => exact Ev.yes rfl (v_oB hc (Ev.ret _))
  | succ d ih =>
    intro i hi hd es ts he ht hee htt
    have hlt : i < p.funs.length := by omega
    have hx := h.fn _ (List.getElem_mem hlt)
    by_cases hp : 100 < p.funs[i].params.length
    · refine ⟨false, Ev.step ?_⟩
      simp only [l14_1_v1_eq, Fnc.rows_len]
      refine Ev.yes (lt_yes i _ hlt) ?_
      simp only [q14_4_v1_eq, tn, Fnc.rows_len, Fnc.rows_at p.funs i hlt, Fnc.row_eq, List.getD_cons_succ, List.getD_cons_zero, drows, Fld.rows_len]
      exact Ev.yes (in_range i _ hlt) (Ev.yes rfl (Ev.yes (decide_eq_true (by show (100 : Int) < Int.ofNat _; simp only [Int.ofNat_eq_natCast]; omega)) (Ev.ret _)))
    obtain ⟨v, K, hK⟩ := ih (i + 1) (by omega) (by omega) (es ++ [p.funs[i].body]) ((ts ++ [p.funs[i].res]) ++ (p.funs[i].params.drop 0).map (·.typ)) (by rw [List.length_append, List.length_singleton]; omega)
      (by rw [List.drop_zero, List.length_append, List.length_append, List.length_singleton, List.length_map]; omega)
      (fun x hxm => by
        rcases List.mem_append.1 hxm with hxm | hxm
        · exact hee x hxm
        · rw [List.mem_singleton.1 hxm]; exact hx.body)
      (fun x hxm => by
        rcases List.mem_append.1 hxm with hxm | hxm
        · rcases List.mem_append.1 hxm with hxm | hxm
          · exact htt x hxm
          · rw [List.mem_singleton.1 hxm]; exact hx.res
        · rw [List.drop_zero] at hxm
          obtain ⟨y, hy, rfl⟩ := List.mem_map.1 hxm
          exact hx.typ y hy)
    refine ⟨v, Ev.step ?_⟩
    simp only [l14_1_v1_eq, Fnc.rows_len]
    refine Ev.yes (lt_yes i _ hlt) ?_
    simp only [q14_4_v1_eq, tn, Fnc.rows_len, Fnc.rows_at p.funs i hlt, Fnc.row_eq, List.getD_cons_succ, List.getD_cons_zero, drows, Fld.rows_len]
    refine Ev.yes (in_range i _ hlt) (Ev.yes rfl (Ev.no (decide_eq_false (by show ¬ (100 : Int) < Int.ofNat _; simp only [Int.ofNat_eq_natCast]; omega)) ?_))
    simp only [q14_5_v1_eq, tn, Fnc.rows_len, Fnc.rows_at p.funs i hlt, Fnc.row_eq, List.getD_cons_succ, List.getD_cons_zero, drows, Fld.rows_len, E.rows_len, T.rows_len]
    refine Ev.yes (in_range i _ hlt) (Ev.yes (room es.length 121 (by omega) (by omega)) (Ev.yes (in_range i _ hlt) (Ev.yes (room ts.length 33 (by omega) (by omega)) ?_)))
    simp only [← T.rows_app, ← E.rows_app]
    refine ⟨K + 200, fun m k n h1 h2 h3 => L_fpars p x0 (Ak k) m n _ _ i hlt (by omega) _ 0 _ (Nat.zero_le _) rfl (by rw [List.length_append, List.length_singleton]; omega) ?_ m (by omega)⟩
    rw [q14_8_eq, wrap_up i (show i < 9223372036854775807 by omega)]
    exact hK m k n (by omega) (by omega) (by omega)
theorem few_funs0 (es : List E) (he : es.length ≤ 1) (hee : ∀ x ∈ es, LenE x) :
    ∃ v : Bool, Ev (fun m k n => l14_1 m (Ak k) n x0 (E.rows es) (Int.ofNat 0) (Fld.rows p.inputs) (Fnc.rows p.funs) p.query.k p.query.n (bx p.query.name) (strs p.query.names) (ints p.query.odds) (E.rows p.query.kids) p.query.line p.query.col) (RV (V.one (bX v))) := by
  by_cases hlt : 0 < p.funs.length
  rotate_left
  · obtain ⟨b, hb⟩ := C_few x0 es (by omega) hee
    obtain ⟨c, hc⟩ := C_fewN x0
    refine ⟨b && c, Ev.step ?_⟩
    simp only [l14_1_eq, Fnc.rows_len]
    refine Ev.no (lt_no 0 _ (by omega)) ?_
    simp only [q14_9_eq]
    refine v_oB hb ?_
    cases b with
    | false => exact Ev.no rfl (Ev.ret _)
    | true => exact Ev.yes rfl (v_oB hc (Ev.ret _))
  · have hx := h.fn _ (List.getElem_mem hlt)
    by_cases hp : 100 < p.funs[0].params.length
    · refine ⟨false, Ev.step ?_⟩
      simp only [l14_1_eq, Fnc.rows_len]
      refine Ev.yes (lt_yes 0 _ hlt) ?_
      simp only [q14_4_eq, tn, Fnc.rows_len, Fnc.rows_at p.funs 0 hlt, Fnc.row_eq, List.getD_cons_succ, List.getD_cons_zero, drows, Fld.rows_len]
      exact Ev.yes (in_range 0 _ hlt) (Ev.yes rfl (Ev.yes (decide_eq_true (by show (100 : Int) < Int.ofNat _; simp only [Int.ofNat_eq_natCast]; omega)) (Ev.ret _)))
    obtain ⟨v, K, hK⟩ := few_funs p x0 h hf _ 1 (by omega) rfl (es ++ [p.funs[0].body]) ([p.funs[0].res] ++ (p.funs[0].params.drop 0).map (·.typ)) (by rw [List.length_append, List.length_singleton]; omega)
      (by rw [List.drop_zero, List.length_append, List.length_singleton, List.length_map]; omega)
      (fun x hxm => by
        rcases List.mem_append.1 hxm with hxm | hxm
        · exact hee x hxm
        · rw [List.mem_singleton.1 hxm]; exact hx.body)
      (fun x hxm => by
        rcases List.mem_append.1 hxm with hxm | hxm
        · rw [List.mem_singleton.1 hxm]; exact hx.res
        · rw [List.drop_zero] at hxm
          obtain ⟨y, hy, rfl⟩ := List.mem_map.1 hxm
          exact hx.typ y hy)
    refine ⟨v, Ev.step ?_⟩
    simp only [l14_1_eq, Fnc.rows_len]
    refine Ev.yes (lt_yes 0 _ hlt) ?_
    simp only [q14_4_eq, tn, Fnc.rows_len, Fnc.rows_at p.funs 0 hlt, Fnc.row_eq, List.getD_cons_succ, List.getD_cons_zero, drows, Fld.rows_len]
    refine Ev.yes (in_range 0 _ hlt) (Ev.yes rfl (Ev.no (decide_eq_false (by show ¬ (100 : Int) < Int.ofNat _; simp only [Int.ofNat_eq_natCast]; omega)) ?_))
    simp only [q14_5_eq, tn, Fnc.rows_len, Fnc.rows_at p.funs 0 hlt, Fnc.row_eq, List.getD_cons_succ, List.getD_cons_zero, drows, Fld.rows_len, E.rows_len]
    refine Ev.yes (in_range 0 _ hlt) (Ev.yes (room es.length 121 (by omega) (by omega)) (Ev.yes (in_range 0 _ hlt) ?_))
    simp only [← T.rows_one, ← E.rows_app]
    refine ⟨K + 200, fun m k n h1 h2 h3 => L_fpars p x0 (Ak k) m n _ _ 0 hlt (by omega) _ 0 _ (Nat.zero_le _) rfl (by rw [List.length_singleton]; omega) ?_ m (by omega)⟩
    rw [q14_8_eq, wrap_up 0 (by decide)]
    exact hK m k n (by omega) (by omega) (by omega)
include hi
theorem few_ins (es : List E) (he : es.length ≤ 1) (hee : ∀ x ∈ es, LenE x) : ∀ (d i : Nat), i ≤ p.inputs.length → p.inputs.length - i = d → ∀ (ts : List T), ts.length ≤ i → (∀ x ∈ ts, LenT x) →
    ∃ v : Bool, Ev (fun m k n => l14_0_v1 m (Ak k) n x0 (E.rows es) (T.rows ts) (Int.ofNat i) (Fld.rows p.inputs) (Fnc.rows p.funs) p.query.k p.query.n (bx p.query.name) (strs p.query.names) (ints p.query.odds) (E.rows p.query.kids) p.query.line p.query.col) (RV (V.one (bX v))) := by
  intro d
  induction d with
  | zero =>
    intro i hi' hd ts ht htt
    obtain ⟨v, hv⟩ := few_funs p x0 h hf _ 0 (Nat.zero_le _) rfl es ts (by omega) (by omega) hee htt
    refine ⟨v, Ev.step ?_⟩
    simp only [l14_0_v1_eq, Fld.rows_len]
    refine Ev.no (lt_no i _ (by omega)) ?_
    simp only [q14_3_v1_eq]
    exact Ev.diag hv
  | succ d ih =>
    intro i hi' hd ts ht htt
    have hlt : i < p.inputs.length := by omega
    obtain ⟨v, hv⟩ := ih (i + 1) (by omega) (by omega) (ts ++ [p.inputs[i].typ]) (by rw [List.length_append, List.length_singleton]; omega) (fun x hxm => by
        rcases List.mem_append.1 hxm with hxm | hxm
        · exact htt x hxm
        · rw [List.mem_singleton.1 hxm]; exact h.inp _ (List.getElem_mem hlt))
    refine ⟨v, Ev.step ?_⟩
    simp only [l14_0_v1_eq, Fld.rows_len]
    refine Ev.yes (lt_yes i _ hlt) ?_
    simp only [q14_1_v1_eq, tn, Fld.rows_len, Fld.rows_at p.inputs i hlt, Fld.row_eq, List.getD_cons_succ, List.getD_cons_zero, T.rows_len]
    refine Ev.yes (in_range i _ hlt) (Ev.yes (room ts.length 33 (by omega) (by omega)) ?_)
    simp only [q14_2_eq, ← T.rows_app, wrap_up i (show i < 9223372036854775807 by omega)]
    exact hv
theorem few_ins0 (es : List E) (he : es.length ≤ 1) (hee : ∀ x ∈ es, LenE x) :
    ∃ v : Bool, Ev (fun m k n => l14_0 m (Ak k) n x0 (E.rows es) (Int.ofNat 0) (Fld.rows p.inputs) (Fnc.rows p.funs) p.query.k p.query.n (bx p.query.name) (strs p.query.names) (ints p.query.odds) (E.rows p.query.kids) p.query.line p.query.col) (RV (V.one (bX v))) := by
  by_cases hlt : 0 < p.inputs.length
  · obtain ⟨v, hv⟩ := few_ins p x0 h hi hf es he hee _ 1 (by omega) rfl [p.inputs[0].typ] (Nat.le_refl _) (fun x hxm => by rw [List.mem_singleton.1 hxm]; exact h.inp _ (List.getElem_mem hlt))
    refine ⟨v, Ev.step ?_⟩
    simp only [l14_0_eq, Fld.rows_len]
    refine Ev.yes (lt_yes 0 _ hlt) ?_
    simp only [q14_1_eq, tn, Fld.rows_len, Fld.rows_at p.inputs 0 hlt, Fld.row_eq, List.getD_cons_succ, List.getD_cons_zero]
    refine Ev.yes (in_range 0 _ hlt) ?_
    simp only [q14_2_eq, ← T.rows_one, wrap_up 0 (by decide)]
    exact hv
  · obtain ⟨v, hv⟩ := few_funs0 p x0 h hf es he hee
    refine ⟨v, Ev.step ?_⟩
    simp only [l14_0_eq, Fld.rows_len]
    refine Ev.no (lt_no 0 _ (by omega)) ?_
    simp only [q14_3_eq]
    exact Ev.diag hv
end
theorem C_fewP (x0 : Int) (p : Pg) (h : LenP p) : SomeB 14 [V.one (iX x0), pV p] := by
  by_cases hi : 100 < p.inputs.length
  · refine ⟨false, call14 _ _ _ _ _ _ _ _ _ _ _ ?_⟩
    simp only [e14_eq, Fld.rows_len, Fnc.rows_len]
    exact Ev.yes (decide_eq_true (by show (100 : Int) < Int.ofNat _; simp only [Int.ofNat_eq_natCast]; omega)) (Ev.ret _)
  by_cases hf : 100 < p.funs.length
  · refine ⟨false, call14 _ _ _ _ _ _ _ _ _ _ _ ?_⟩
    simp only [e14_eq, Fld.rows_len, Fnc.rows_len]
    exact Ev.no (decide_eq_false (by show ¬ (100 : Int) < Int.ofNat _; simp only [Int.ofNat_eq_natCast]; omega)) (Ev.yes (decide_eq_true (by show (100 : Int) < Int.ofNat _; simp only [Int.ofNat_eq_natCast]; omega)) (Ev.ret _))
  obtain ⟨v, hv⟩ := few_ins0 p x0 h (by omega) (by omega) [p.query] (Nat.le_refl _) (fun x hx => by rw [List.mem_singleton.1 hx]; exact h.query)
  refine ⟨v, call14 _ _ _ _ _ _ _ _ _ _ _ ?_⟩
  simp only [e14_eq, Fld.rows_len, Fnc.rows_len]
  refine Ev.no (decide_eq_false (by show ¬ (100 : Int) < Int.ofNat _; simp only [Int.ofNat_eq_natCast]; omega)) (Ev.no (decide_eq_false (by show ¬ (100 : Int) < Int.ofNat _; simp only [Int.ofNat_eq_natCast]; omega)) ?_)
  simp only [q14_0_eq, ← E.rows_one]
  exact Ev.diag hv
end Go.Proofs.Ytbmcafehpgimfaa.Ps
namespace Go.Proofs.Ytbmcafehpgimfaa.Ps
set_option linter.unusedVariables false
set_option linter.unusedSimpArgs false
open Go Go.RowKit Px
open Lx (Tok)

theorem ne_int {a b : Int} (h : (a == b) = true) : (a != b) = false := by rw [bne, h]; rfl
theorem ne_int' {a b : Int} (h : (a == b) = false) : (a != b) = true := by rw [bne, h]; rfl
theorem C_rnames (a b : List (List UInt8)) (ha : a.length ≤ 9223372036854775807) : Cal 35 [V.one (X.d (D.list 1 (strs a))), V.one (X.d (D.list 1 (strs b)))] [] (RV (V.one (bX (decide (a = b))))) := by
  refine call35 _ _ ?_
  simp only [e35_eq, strs_len]
  rw [← eqL_eq]
  by_cases h : a.length = b.length
  · refine Ev.no (ne_len' h) ?_
    simp only [q35_0_eq]
    have := cmp_loop (fun x y : List UInt8 => decide (x = y)) a b h ha (F := fun m k n i => l35_0 m (Ak k) n (strs a) (strs b) (Int.ofNat i)) (by
        simp only [l35_0_eq, strs_len]
        exact Ev.no (lt_no _ _ (Nat.le_refl _)) (Ev.of fun m k n => by rw [q35_3_eq])) (fun i hi r hr => by
        simp only [l35_0_eq, strs_len]
        refine Ev.yes (lt_yes i _ hi) ?_
        simp only [q35_1_eq, tn, strs_at a i hi, strs_at b i (show i < b.length by omega), strs_len]
        refine Ev.yes (in_range i _ hi) (Ev.yes (in_range i _ (by omega)) (Ev.yes rfl (Ev.yes rfl ?_)))
        show Ev (fun m k n => bif !beqL (bx a[i]).data.toList (bx b[i]).data.toList then _ else _) _
        rw [beqL_bx]
        cases decide (a[i] = b[i]) with
        | false => exact Ev.yes rfl (Ev.ret _)
        | true =>
          refine Ev.no rfl ?_
          simp only [q35_2_eq, wrap_up i (show i < 9223372036854775807 by omega)]
          exact hr) _ 0 (Nat.zero_le _) rfl
    rw [Bool.and_true] at this
    exact Ev.diag this
  · rw [eqL_len _ _ _ h]
    exact Ev.yes (ne_len h) (Ev.ret _)
theorem C_rodds (a b : List Int) (ha : a.length ≤ 9223372036854775807) : Cal 36 [V.one (X.d (D.list 1 (ints a))), V.one (X.d (D.list 1 (ints b)))] [] (RV (V.one (bX (decide (a = b))))) := by
  refine call36 _ _ ?_
  simp only [e36_eq, ints_len]
  rw [← eqL_eq]
  by_cases h : a.length = b.length
  · refine Ev.no (ne_len' h) ?_
    simp only [q36_0_eq]
    have := cmp_loop (fun x y : Int => decide (x = y)) a b h ha (F := fun m k n i => l36_0 m (Ak k) n (ints a) (ints b) (Int.ofNat i)) (by
        simp only [l36_0_eq, ints_len]
        exact Ev.no (lt_no _ _ (Nat.le_refl _)) (Ev.of fun m k n => by rw [q36_3_eq])) (fun i hi r hr => by
        simp only [l36_0_eq, ints_len]
        refine Ev.yes (lt_yes i _ hi) ?_
        simp only [q36_1_eq, tn, ints_at a i hi, ints_at b i (show i < b.length by omega), ints_len]
        refine Ev.yes (in_range i _ hi) (Ev.yes (in_range i _ (by omega)) (Ev.yes rfl (Ev.yes rfl ?_)))
        show Ev (fun m k n => bif a[i] != b[i] then _ else _) _
        by_cases hab : a[i] = b[i]
        · rw [decide_eq_true hab]
          refine Ev.no (by rw [hab]; simp) ?_
          simp only [q36_2_eq, wrap_up i (show i < 9223372036854775807 by omega)]
          exact hr
        · rw [decide_eq_false hab]
          exact Ev.yes (by simpa using hab) (Ev.ret _)) _ 0 (Nat.zero_le _) rfl
    rw [Bool.and_true] at this
    exact Ev.diag this
  · rw [eqL_len _ _ _ h]
    exact Ev.yes (ne_len h) (Ev.ret _)
theorem L_rT (k₀ k₁ : Int) (a b : List T) (h : a.length = b.length) (ha : a.length ≤ 9223372036854775807) (H : ∀ x ∈ a, ∀ y, Cal 43 [tV x, tV y] [] (RV (V.one (bX (sameT x y))))) :
    Ev (fun m k n => q43_0 (Ak k) n k₀ (T.rows a) k₁ (T.rows b)) (RV (V.one (bX (eqL sameT a b)))) := by
    simp only [q43_0_eq]
    have := cmp_loop sameT a b h ha (F := fun m k n i => l43_0 m (Ak k) n (Int.ofNat i) k₀ (T.rows a) k₁ (T.rows b)) (by
        simp only [l43_0_eq, T.rows_len]
        exact Ev.no (lt_no _ _ (Nat.le_refl _)) (Ev.of fun m k n => by rw [q43_3_eq])) (fun i hi r hr => by
        simp only [l43_0_eq, T.rows_len]
        refine Ev.yes (lt_yes i _ hi) ?_
        simp only [q43_1_eq, tn, T.rows_at a i hi, T.rows_at b i (show i < b.length by omega), T.row_eq, T.rows_len]
        refine Ev.yes (in_range i _ hi) (Ev.yes (in_range i _ (by omega)) ?_)
        refine v_oB (H a[i] (List.getElem_mem hi) b[i]) ?_
        cases sameT a[i] b[i] with
        | false => exact Ev.yes rfl (Ev.ret _)
        | true =>
          refine Ev.no rfl ?_
          simp only [q43_2_eq, wrap_up i (show i < 9223372036854775807 by omega)]
          exact hr) _ 0 (Nat.zero_le _) rfl
    rw [Bool.and_true] at this
    exact Ev.diag this
mutual
theorem C_rT : ∀ (a b : T), LenT a → Cal 43 [tV a, tV b] [] (RV (V.one (bX (sameT a b))))
  | .mk k l, .mk k' l', h => by
    rw [LenT] at h
    obtain ⟨hls, hll⟩ := h
    have H := C_rTs l hll
    rw [sameT_eq]
    refine call43 _ _ _ _ ?_
    simp only [e43_eq, T.rows_len]
    show Ev _ (RV (V.one (bX ((k == k') && eqL sameT l l'))))
    cases h1 : k == k' with
    | false => exact Ev.yes (ne_int' h1) (Ev.ret _)
    | true =>
    refine Ev.no (ne_int h1) ?_
    by_cases h2 : l.length = l'.length
    · exact Ev.no (ne_len' h2) (L_rT k k' l l' h2 hls H)
    · rw [eqL_len _ _ _ h2]
      exact Ev.yes (ne_len h2) (Ev.ret _)
theorem C_rTs : ∀ (ks : List T), LenTs ks → ∀ x ∈ ks, ∀ y, Cal 43 [tV x, tV y] [] (RV (V.one (bX (sameT x y))))
  | [], _, x, hx, _ => by cases hx
  | z :: r, hs, x, hx, y => by
    rw [LenTs] at hs
    rcases List.mem_cons.1 hx with h | h
    · rw [h]; exact C_rT z y hs.1
    · exact C_rTs r hs.2 x h y
end
theorem L_rE (k₀ n₀ : Int) (s₀ : ByteArray) (ns₀ os₀ : List (List D)) (p₀ q₀ k₁ n₁ : Int) (s₁ : ByteArray) (ns₁ os₁ : List (List D)) (p₁ q₁ : Int) (a b : List E) (h : a.length = b.length) (ha : a.length ≤ 9223372036854775807) (H : ∀ x ∈ a, ∀ y, Cal 16 [eV x, eV y] [] (RV (V.one (bX (sameE x y))))) :
    Ev (fun m k n => q16_0 (Ak k) n k₀ n₀ s₀ ns₀ os₀ (E.rows a) p₀ q₀ k₁ n₁ s₁ ns₁ os₁ (E.rows b) p₁ q₁) (RV (V.one (bX (eqL sameE a b)))) := by
    simp only [q16_0_eq]
    have := cmp_loop sameE a b h ha (F := fun m k n i => l16_0 m (Ak k) n (Int.ofNat i) k₀ n₀ s₀ ns₀ os₀ (E.rows a) p₀ q₀ k₁ n₁ s₁ ns₁ os₁ (E.rows b) p₁ q₁) (by
        simp only [l16_0_eq, E.rows_len]
        exact Ev.no (lt_no _ _ (Nat.le_refl _)) (Ev.of fun m k n => by rw [q16_3_eq])) (fun i hi r hr => by
        simp only [l16_0_eq, E.rows_len]
        refine Ev.yes (lt_yes i _ hi) ?_
        simp only [q16_1_eq, tn, E.rows_at a i hi, E.rows_at b i (show i < b.length by omega), E.row_eq, E.rows_len]
        refine Ev.yes (in_range i _ hi) (Ev.yes (in_range i _ (by omega)) ?_)
        refine v_oB (H a[i] (List.getElem_mem hi) b[i]) ?_
        cases sameE a[i] b[i] with
        | false => exact Ev.yes rfl (Ev.ret _)
        | true =>
          refine Ev.no rfl ?_
          simp only [q16_2_eq, wrap_up i (show i < 9223372036854775807 by omega)]
          exact hr) _ 0 (Nat.zero_le _) rfl
    rw [Bool.and_true] at this
    exact Ev.diag this
mutual
theorem C_rE : ∀ (a b : E), LenE a → Cal 16 [eV a, eV b] [] (RV (V.one (bX (sameE a b))))
  | .mk k n s ns os ks l c, .mk k' n' s' ns' os' ks' l' c', h => by
    rw [LenE] at h
    obtain ⟨⟨hns, hos, hks⟩, hkk⟩ := h
    have H := C_rEs ks hkk
    rw [sameE_eq]
    refine call16 _ _ _ _ _ _ _ _ _ _ _ _ _ _ _ _ ?_
    simp only [e16_eq, E.rows_len]
    show Ev _ (RV (V.one (bX ((k == k') && ((n == n') && (decide (s = s') && (decide (ns = ns') && (decide (os = os') && eqL sameE ks ks'))))))))
    cases h1 : k == k' with
    | false => exact Ev.yes (ne_int' h1) (Ev.ret _)
    | true =>
    refine Ev.no (ne_int h1) ?_
    cases h2 : n == n' with
    | false => exact Ev.yes (ne_int' h2) (Ev.ret _)
    | true =>
    refine Ev.no (ne_int h2) ?_
    have h3 := beqL_bx s s'
    cases h4 : decide (s = s') with
    | false => exact Ev.yes (by show (!beqL (bx s).data.toList (bx s').data.toList) = true; rw [h3, h4]; rfl) (Ev.ret _)
    | true =>
    refine Ev.no (by show (!beqL (bx s).data.toList (bx s').data.toList) = false; rw [h3, h4]; rfl) ?_
    refine v_oB (C_rnames ns ns' hns) ?_
    cases h5 : decide (ns = ns') with
    | false => exact Ev.yes rfl (Ev.ret _)
    | true =>
    refine Ev.no rfl ?_
    refine v_oB (C_rodds os os' hos) ?_
    cases h6 : decide (os = os') with
    | false => exact Ev.yes rfl (Ev.ret _)
    | true =>
    refine Ev.no rfl ?_
    by_cases h7 : ks.length = ks'.length
    · exact Ev.no (ne_len' h7) (L_rE _ _ _ _ _ _ _ _ _ _ _ _ _ _ ks ks' h7 hks H)
    · show Ev _ (RV (V.one (bX (true && (true && (true && (true && (true && eqL sameE ks ks'))))))))
      rw [eqL_len _ _ _ h7]
      exact Ev.yes (ne_len h7) (Ev.ret _)
theorem C_rEs : ∀ (ks : List E), LenEs ks → ∀ x ∈ ks, ∀ y, Cal 16 [eV x, eV y] [] (RV (V.one (bX (sameE x y))))
  | [], _, x, hx, _ => by cases hx
  | z :: r, hs, x, hx, y => by
    rw [LenEs] at hs
    rcases List.mem_cons.1 hx with h | h
    · rw [h]; exact C_rE z y hs.1
    · exact C_rEs r hs.2 x h y
end
theorem C_rFs (a b : List Fld) (ha : a.length ≤ 9223372036854775807) (H : ∀ x ∈ a, LenT x.typ) : Cal 42 [V.one (X.d (D.list 5 (Fld.rows a))), V.one (X.d (D.list 5 (Fld.rows b)))] [] (RV (V.one (bX (eqL sameF a b)))) := by
  refine call42 _ _ ?_
  simp only [e42_eq, Fld.rows_len]
  by_cases h : a.length = b.length
  · refine Ev.no (ne_len' h) ?_
    simp only [q42_0_eq]
    have := cmp_loop sameF a b h ha (F := fun m k n i => l42_0 m (Ak k) n (Fld.rows a) (Fld.rows b) (Int.ofNat i)) (by
        simp only [l42_0_eq, Fld.rows_len]
        exact Ev.no (lt_no _ _ (Nat.le_refl _)) (Ev.of fun m k n => by rw [q42_3_eq])) (fun i hi r hr => by
        simp only [l42_0_eq, Fld.rows_len]
        refine Ev.yes (lt_yes i _ hi) ?_
        simp only [q42_1_eq, tn, Fld.rows_at a i hi, Fld.rows_at b i (show i < b.length by omega), Fld.row_eq, Fld.rows_len]
        refine Ev.yes (in_range i _ hi) (Ev.yes (in_range i _ (by omega)) (Ev.yes rfl (Ev.yes rfl ?_)))
        unfold sameF
        have h3 := beqL_bx a[i].name b[i].name
        cases h4 : decide (a[i].name = b[i].name) with
        | false => exact Ev.yes (by show (!beqL (bx a[i].name).data.toList (bx b[i].name).data.toList) = true; rw [h3, h4]; rfl) (Ev.ret _)
        | true =>
        refine Ev.no (by show (!beqL (bx a[i].name).data.toList (bx b[i].name).data.toList) = false; rw [h3, h4]; rfl) ?_
        refine Ev.yes (in_range i _ hi) (Ev.yes (in_range i _ (by omega)) ?_)
        refine v_oB (C_rT a[i].typ b[i].typ (H _ (List.getElem_mem hi))) ?_
        cases sameT a[i].typ b[i].typ with
        | false => exact Ev.yes rfl (Ev.ret _)
        | true =>
          refine Ev.no rfl ?_
          simp only [q42_2_eq, wrap_up i (show i < 9223372036854775807 by omega)]
          exact hr) _ 0 (Nat.zero_le _) rfl
    rw [Bool.and_true] at this
    exact Ev.diag this
  · rw [eqL_len _ _ _ h]
    exact Ev.yes (ne_len h) (Ev.ret _)
theorem C_rP (p q : Pg) (h : LenP p) : Cal 18 [pV p, pV q] [] (RV (V.one (bX (sameP p q)))) := by
  refine call18 _ _ _ _ _ _ _ _ _ _ _ _ _ _ _ _ _ _ _ _ ?_
  simp only [e18_eq, Fnc.rows_len]
  unfold sameP
  refine v_oB (C_rFs p.inputs q.inputs h.inl h.inp) ?_
  cases h5 : eqL sameF p.inputs q.inputs with
  | false => exact Ev.yes rfl (Ev.ret _)
  | true =>
  refine Ev.no rfl ?_
  by_cases h6 : p.funs.length = q.funs.length
  · refine Ev.no (ne_len' h6) ?_
    simp only [q18_0_eq]
    have hfin : Ev (fun m k n => q18_3 (Ak k) n (Fld.rows p.inputs) (Fnc.rows p.funs) p.query.k p.query.n (bx p.query.name) (strs p.query.names) (ints p.query.odds) (E.rows p.query.kids) p.query.line p.query.col (Fld.rows q.inputs) (Fnc.rows q.funs) q.query.k q.query.n (bx q.query.name) (strs q.query.names) (ints q.query.odds) (E.rows q.query.kids) q.query.line q.query.col) (RV (V.one (bX (sameE p.query q.query)))) := by
      simp only [q18_3_eq]
      exact v_oB (C_rE p.query q.query h.query) (Ev.ret _)
    have := cmp_loop sameFn p.funs q.funs h6 h.fl (z := sameE p.query q.query) (F := fun m k n i => l18_0 m (Ak k) n (Int.ofNat i) (Fld.rows p.inputs) (Fnc.rows p.funs) p.query.k p.query.n (bx p.query.name) (strs p.query.names) (ints p.query.odds) (E.rows p.query.kids) p.query.line p.query.col (Fld.rows q.inputs) (Fnc.rows q.funs) q.query.k q.query.n (bx q.query.name) (strs q.query.names) (ints q.query.odds) (E.rows q.query.kids) q.query.line q.query.col) (by
        simp only [l18_0_eq, Fnc.rows_len]
        exact Ev.no (lt_no _ _ (Nat.le_refl _)) hfin) (fun i hi r hr => by
        have hx := h.fn _ (List.getElem_mem hi)
        simp only [l18_0_eq, Fnc.rows_len]
        refine Ev.yes (lt_yes i _ hi) ?_
        simp only [q18_1_eq, tn, Fnc.rows_at p.funs i hi, Fnc.rows_at q.funs i (show i < q.funs.length by omega), Fnc.row_eq, Fnc.rows_len]
        refine Ev.yes (in_range i _ hi) (Ev.yes (in_range i _ (by omega)) (Ev.yes rfl (Ev.yes rfl ?_)))
        unfold sameFn
        have h3 := beqL_bx p.funs[i].name q.funs[i].name
        cases h4 : decide (p.funs[i].name = q.funs[i].name) with
        | false => exact Ev.yes (by show (!beqL (bx p.funs[i].name).data.toList (bx q.funs[i].name).data.toList) = true; rw [h3, h4]; rfl) (Ev.ret _)
        | true =>
        refine Ev.no (by show (!beqL (bx p.funs[i].name).data.toList (bx q.funs[i].name).data.toList) = false; rw [h3, h4]; rfl) ?_
        refine v_oB (C_rFs p.funs[i].params q.funs[i].params hx.par hx.typ) ?_
        cases eqL sameF p.funs[i].params q.funs[i].params with
        | false => exact Ev.yes rfl (Ev.ret _)
        | true =>
        refine Ev.no rfl ?_
        refine v_oB (C_rT p.funs[i].res q.funs[i].res hx.res) ?_
        cases sameT p.funs[i].res q.funs[i].res with
        | false => exact Ev.yes rfl (Ev.ret _)
        | true =>
        refine Ev.no rfl ?_
        refine v_oB (C_rE p.funs[i].body q.funs[i].body hx.body) ?_
        cases sameE p.funs[i].body q.funs[i].body with
        | false => exact Ev.yes rfl (Ev.ret _)
        | true =>
          refine Ev.no rfl ?_
          simp only [q18_2_eq, wrap_up i (show i < 9223372036854775807 by have := h.fl; omega)]
          exact hr) _ 0 (Nat.zero_le _) rfl
    exact Ev.diag this
  · rw [eqL_len _ _ _ h6]
    exact Ev.yes (ne_len h6) (Ev.ret _)
end Go.Proofs.Ytbmcafehpgimfaa.Ps
namespace Go.Proofs.Ytbmcafehpgimfaa.Ps
set_option linter.unusedVariables false
set_option linter.unusedSimpArgs false
open Go Go.RowKit Px
open Lx (Tok)

theorem C_awake' : Cal 10 [] [] (RV (V.one (bX true))) := by
  refine ⟨100, fun m k n h1 h2 h3 => ?_⟩
  obtain ⟨k, rfl⟩ : ∃ k', k = k' + 100 := ⟨k - 100, by omega⟩
  exact awake_all k
theorem awake_fin {Q : Nat → Nat → Nat → D → Option Out} : Ev (fun m k n => r_oB (Ak k false 10 [] []) (fun c => some (RV (V.one (bX c)))) (Q m k n)) (RV (V.one (bX true))) := v_oB C_awake' (Ev.ret _)
theorem lawSames (a b : Pg) (ha : LenP a) (hb : LenP b) : Cal 4 [pV a, pV b] [] (RV (V.one (bX true))) := by
  refine call4 _ _ _ _ _ _ _ _ _ _ _ _ _ _ _ _ _ _ _ _ ?_
  simp only [e4_eq]
  obtain ⟨u, hu⟩ := C_fewP 2000 a ha
  obtain ⟨v, hv⟩ := C_fewP 2000 b hb
  refine v_oB hu ?_
  cases u with
  | false => exact Ev.yes rfl awake_fin
  | true =>
  refine Ev.no rfl ?_
  refine v_oB hv ?_
  cases v with
  | false => exact Ev.yes rfl awake_fin
  | true =>
  refine Ev.no rfl ?_
  simp only [q4_0_eq]
  refine v_oB (C_same a.query b.query ha.query) ?_
  refine v_oB (C_rE a.query b.query ha.query) ?_
  refine Ev.yes (by simp) ?_
  refine v_oB (C_sameP a b ha) ?_
  refine v_oB (C_rP a b ha) ?_
  refine Ev.yes (by simp) ?_
  refine v_oB (C_sameP a a ha) ?_
  rw [sameP_alike rfl]
  exact Ev.yes rfl awake_fin
end Go.Proofs.Ytbmcafehpgimfaa.Ps
namespace Go.Proofs.Ytbmcafehpgimfaa.Ps
set_option linter.unusedVariables false
set_option linter.unusedSimpArgs false
set_option maxRecDepth 100000
open Go Go.RowKit Px
theorem cell_lt {w : World} {b o : Nat} {v : Value} (h : w.cell? ⟨b, o, none⟩ = some v) : o < cellsIn w b := by
  unfold World.cell? at h
  unfold cellsIn
  split at h
  · rename_i cs _ _ hq
    rw [hq]
    have := (Array.getElem?_eq_some_iff.1 (show cs[o]? = some v from h)).1
    exact this
  · cases h
theorem choose_list' {α : Type} (Q : Nat → α → Prop) : ∀ n, (∀ i, i < n → ∃ a, Q i a) → ∃ xs : List α, xs.length = n ∧ ∀ i a, xs[i]? = some a → Q i a
  | 0, _ => ⟨[], rfl, fun i a h => by simp at h⟩
  | n + 1, h => by
    obtain ⟨xs, hl, hx⟩ := choose_list' Q n (fun i hi => h i (by omega))
    obtain ⟨a, ha⟩ := h n (by omega)
    refine ⟨xs ++ [a], by simp [hl], fun i b hb => ?_⟩
    by_cases hi : i < xs.length
    · rw [List.getElem?_append_left hi] at hb
      exact hx i b hb
    · rw [List.getElem?_append_right (by omega)] at hb
      obtain ⟨hlt, e⟩ := List.getElem?_eq_some_iff.1 hb
      have : i = n := by simp at hlt; omega
      subst this
      have : b = a := by simpa [hl] using e.symm
      rw [this]; exact ha
/-- A row of cells reads as a's row. -/
def RowRep {α : Type} (w : World) (sz : Nat) (row : α → List D) (a : α) (cs : List Value) : Prop :=
  cs.length = sz ∧ ∀ j, j < sz → RepD w (cellsIn w) (dat (row a) j) (cs.getD j undef)
section
variable {H : Type} {enc : TypeId × Value → H} {P : Program} {w : World} {base : Nat} {spare : Nat → Bool} {held : Bool}
theorem at_spot' {w : World} {a : Addr} {v : Value} (h : w.cell? a = some v) : a.spot = none := by
  unfold World.cell? at h
  split at h
  · cases hs : a.spot with
    | none => rfl
    | some k => rw [hs] at h; simp at h
  · cases h
theorem addr_at {a : Addr} (h : a.spot = none) (n : Nat) : a.add n = ⟨a.block, a.off + n, none⟩ := by
  obtain ⟨b, o, s⟩ := a
  cases h
  unfold Addr.add
  by_cases hz : n = 0
  · rw [if_pos hz, hz]; rfl
  · rw [if_neg hz]
/-- A slice whose elements read as rows. -/
theorem rep_slice {α : Type} {row : α → List D} {t e : TypeId} {sz fuel : Nat} {cs : List Value} {x : DataW H × List MemPlace} (hu : P.underlying t = some (.slice e)) (hc : P.cellsOf e = sz) (hsz : 0 < sz)
    (he : ∀ m, m < fuel → ∀ cs y, DataW.trod enc P w base spare held m e cs = some y → ∃ a : α, RowRep w sz row a cs) (h : DataW.trod enc P w base spare held fuel t cs = some x) :
    ∃ (l : List α) (v : Value), cs = [v] ∧ RepD w (cellsIn w) (.list sz (l.map row)) v ∧ l.length ≤ maxLen := by
  rcases DataW.trod_slice hu h with ⟨rfl, _⟩ | ⟨a, len, cap, elems, rest, m, hm, rfl, hx, hb, hl, hmx, hlen, hel, _, _⟩
  · exact ⟨[], _, rfl, .nil sz none 0, by simp⟩
  · rw [hc] at hel
    have hq : ∀ i, i < len → ∃ p : α, ∃ c : List Value, RowRep w sz row p c ∧ ∀ j, j < sz → w.cell? ((a.add (i * sz)).add j) = c[j]? := by
      intro i hi
      have h1 := hel i hi
      have h2 : elems[i]? = some (elems[i]'(by omega)) := List.getElem?_eq_getElem (by omega)
      rw [h2] at h1
      obtain ⟨cs', hcs, ht⟩ := Option.bind_eq_some_iff.1 h1
      obtain ⟨p, hp⟩ := he m (by omega) cs' _ ht
      obtain ⟨_, hcl, hat⟩ := World.cells?_some hcs
      exact ⟨p, cs', hp, hat⟩
    obtain ⟨xs, hxl, hxs⟩ := choose_list' _ len hq
    rcases Nat.eq_zero_or_pos len with h0 | h0
    · subst h0
      have : xs = [] := List.eq_nil_of_length_eq_zero hxl
      exact ⟨[], _, rfl, .nil sz (some a) cap, by simp⟩
    · have hval : ∀ i, i < len → ∃ c : List Value, RowRep w sz row (xs.getD i (xs[0]'(by omega))) c ∧ ∀ j, j < sz → w.cell? ((a.add (i * sz)).add j) = c[j]? := by
        intro i hi
        have := hxs i (xs[i]'(by omega)) (List.getElem?_eq_getElem (by omega))
        rw [List.getD_eq_getElem?_getD, List.getElem?_eq_getElem (by omega)]
        exact this
      have hsp : a.spot = none := by
        obtain ⟨c, hr, hat⟩ := hval 0 h0
        have h1 := hat 0 hsz
        rw [List.getElem?_eq_getElem (by rw [hr.1]; exact hsz)] at h1
        have := at_spot' h1
        unfold Addr.add at this
        simp at this
        exact this
      have cell : ∀ i j, i < len → j < sz → ∃ v, w.cell? ⟨a.block, a.off + (i * sz + j), none⟩ = some v ∧ RepD w (cellsIn w) (dat ((xs.map row).getD i []) j) v := by
        intro i j hi hj
        obtain ⟨c, hr, hat⟩ := hval i hi
        have h1 := hat j hj
        rw [addr_at hsp, addr_at rfl, List.getElem?_eq_getElem (by rw [hr.1]; exact hj)] at h1
        have h2 := hr.2 j hj
        have h3 : c.getD j undef = c[j]'(by rw [hr.1]; exact hj) := by
          rw [List.getD_eq_getElem?_getD, List.getElem?_eq_getElem (by rw [hr.1]; exact hj)]; rfl
        rw [h3] at h2
        have h4 : w.cell? ⟨a.block, a.off + i * sz + j, none⟩ = some (c[j]'(by rw [hr.1]; exact hj)) := h1
        rw [Nat.add_assoc] at h4
        refine ⟨_, h4, ?_⟩
        have e : (xs.map row).getD i [] = row (xs.getD i (xs[0]'(by omega))) := by
          rw [List.getD_eq_getElem?_getD, List.getElem?_map, List.getD_eq_getElem?_getD, List.getElem?_eq_getElem (by omega)]; rfl
        rw [e]
        exact h2
      have hcell : ∀ i j, i < len → j < sz → w.cell? ⟨a.block, a.off + (i * sz + j), none⟩ = some ((w.cell? ⟨a.block, a.off + (i * sz + j), none⟩).getD undef) := fun i j hi hj => by
        obtain ⟨v, hv, _⟩ := cell i j hi hj
        rw [hv]; rfl
      have hl2 : (xs.map row).length = len := by rw [List.length_map, hxl]
      have hrep : ∀ i j, i < len → j < sz → RepD w (cellsIn w) (dat ((xs.map row).getD i []) j) ((w.cell? ⟨a.block, a.off + (i * sz + j), none⟩).getD undef) := fun i j hi hj => by
        obtain ⟨v, hv, hr⟩ := cell i j hi hj
        rw [hv]; exact hr
      refine ⟨xs, _, rfl, ?_, by omega⟩
      obtain ⟨ab, ao, asp⟩ := a
      cases hsp
      have key := RepD.list (w := w) (φ := cellsIn w) sz (xs.map row) ab ao cap (fun i j => (w.cell? ⟨ab, ao + (i * sz + j), none⟩).getD undef) (by omega) (by
        rw [hl2]
        have h3 := cell_lt (hcell (len - 1) (sz - 1) (by omega) (by omega))
        have h4 : (len - 1) * sz + (sz - 1) + 1 = len * sz := by
          obtain ⟨n, rfl⟩ : ∃ n, len = n + 1 := ⟨len - 1, by omega⟩
          rw [Nat.add_sub_cancel, Nat.add_mul, Nat.one_mul]
          omega
        have h5 : ao + ((len - 1) * sz + (sz - 1)) < cellsIn w ab := h3
        omega) (by rw [hl2]; exact hcell) (by rw [hl2]; exact fun i j hi hj => (hrep i j hi hj).one) (by rw [hl2]; exact hrep)
      rw [hl2] at key
      exact key
end
/-! ### Bytes in a slice -/
section
variable {H : Type} {enc : TypeId × Value → H} {w : World} {base : Nat} {spare : Nat → Bool} {held : Bool}
def u8s (l : List Int) : List (List D) := l.map fun n => [D.int IntKind.u8 n]
end
end Go.Proofs.Ytbmcafehpgimfaa.Ps
namespace Go.Proofs.Ytbmcafehpgimfaa.Ps
set_option linter.unusedVariables false
set_option linter.unusedSimpArgs false
set_option maxRecDepth 100000
open Go Go.RowKit Px

theorem sub_get (cs : List Value) (off c j : Nat) (h : j < c) : ((cs.drop off).take c).getD j undef = cs.getD (off + j) undef := by
  rw [List.getD_eq_getElem?_getD, List.getD_eq_getElem?_getD, List.getElem?_take_of_lt h, List.getElem?_drop]
theorem one_get {cs : List Value} {off : Nat} {v : Value} (h : (cs.drop off).take 1 = [v]) : cs.getD off undef = v := by
  have := sub_get cs off 1 0 (by omega)
  rw [h] at this
  exact this.symm
section
variable {H : Type} {enc : TypeId × Value → H} {w : World} {base : Nat} {spare : Nat → Bool} {held : Bool}
theorem c1 : Try.prog.cellsOf 3 = 1 ∧ Try.prog.cellsOf 9 = 1 ∧ Try.prog.cellsOf 23 = 1 ∧ Try.prog.cellsOf 24 = 1 ∧ Try.prog.cellsOf 25 = 1 ∧ Try.prog.cellsOf 35 = 1 ∧ Try.prog.cellsOf 36 = 1 ∧ Try.prog.cellsOf 53 = 1 := ⟨by kernel_rfl, by kernel_rfl, by kernel_rfl, by kernel_rfl, by kernel_rfl, by kernel_rfl, by kernel_rfl, by kernel_rfl⟩
theorem c2 : Try.prog.cellsOf 55 = 2 ∧ Try.prog.cellsOf 27 = 8 ∧ Try.prog.cellsOf 74 = 5 ∧ Try.prog.cellsOf 57 = 14 ∧ Try.prog.cellsOf 38 = 10 := ⟨by kernel_rfl, by kernel_rfl, by kernel_rfl, by kernel_rfl, by kernel_rfl⟩
theorem rep_str : ∀ fuel cs x, DataW.trod enc Try.prog w base spare held fuel 9 cs = some x → ∃ s : List UInt8, RowRep w 1 (fun s => [D.str (bx s)]) s cs := by
  intro fuel cs x h
  obtain ⟨s, hk, _, _⟩ := DataW.trod_string Try.underlying9 h
  cases hk
  refine ⟨s.data.toList, rfl, fun j hj => ?_⟩
  match j, hj with
  | 0, _ =>
    show RepD _ _ (D.str (bx s.data.toList)) _
    rw [bx_self]
    exact .str _
theorem rep_int : ∀ fuel cs x, DataW.trod enc Try.prog w base spare held fuel 3 cs = some x → ∃ n : Int, RowRep w 1 (fun n => [D.int IntKind.i64 n]) n cs := by
  intro fuel cs x h
  obtain ⟨k, hk, _, _⟩ := DataW.trod_int Try.underlying3 h
  cases hk
  refine ⟨k, rfl, fun j hj => ?_⟩
  match j, hj with
  | 0, _ => exact .int _ _
theorem f_int {n off : Nat} {cs : List Value} {y : Option (DataW H × List MemPlace)} {z : DataW H × List MemPlace} (h : DataW.trod enc Try.prog w base spare held n 3 ((cs.drop off).take (Try.prog.cellsOf 3)) = y) (hy : y = some z) : ∃ k : Int, RepD w (cellsIn w) (.int .i64 k) (cs.getD off undef) := by
  rw [c1.1, hy] at h
  obtain ⟨k, hk, _, _⟩ := DataW.trod_int Try.underlying3 h
  rw [one_get hk]
  exact ⟨k, .int _ _⟩
theorem f_str {n off : Nat} {cs : List Value} {y : Option (DataW H × List MemPlace)} {z : DataW H × List MemPlace} (h : DataW.trod enc Try.prog w base spare held n 9 ((cs.drop off).take (Try.prog.cellsOf 9)) = y) (hy : y = some z) : ∃ s : List UInt8, RepD w (cellsIn w) (.str (bx s)) (cs.getD off undef) := by
  rw [c1.2.1, hy] at h
  obtain ⟨s, hk, _, _⟩ := DataW.trod_string Try.underlying9 h
  rw [one_get hk]
  refine ⟨s.data.toList, ?_⟩
  rw [bx_self]
  exact .str _
theorem f_list {α : Type} {row : α → List D} {t e sz n off : Nat} {cs : List Value} {y : Option (DataW H × List MemPlace)} {z : DataW H × List MemPlace} (hu : Try.prog.underlying t = some (.slice e)) (h1 : Try.prog.cellsOf t = 1) (hc : Try.prog.cellsOf e = sz) (hsz : 0 < sz)
    (he : ∀ m, m < n → ∀ cs y, DataW.trod enc Try.prog w base spare held m e cs = some y → ∃ a : α, RowRep w sz row a cs) (h : DataW.trod enc Try.prog w base spare held n t ((cs.drop off).take (Try.prog.cellsOf t)) = y) (hy : y = some z) :
    ∃ l : List α, l.length ≤ 9223372036854775807 ∧ RepD w (cellsIn w) (.list sz (l.map row)) (cs.getD off undef) := by
  rw [h1, hy] at h
  obtain ⟨l, v, hv, hr, hl⟩ := rep_slice hu hc hsz he h
  rw [one_get hv]
  exact ⟨l, hl, hr⟩
theorem lenTs_all : ∀ l : List T, (∀ x ∈ l, LenT x) → LenTs l
  | [], _ => by rw [LenTs]; trivial
  | x :: r, h => by rw [LenTs]; exact ⟨h x (by simp), lenTs_all r fun y hy => h y (by simp [hy])⟩
theorem lenEs_all : ∀ l : List E, (∀ x ∈ l, LenE x) → LenEs l
  | [], _ => by rw [LenEs]; trivial
  | x :: r, h => by rw [LenEs]; exact ⟨h x (by simp), lenEs_all r fun y hy => h y (by simp [hy])⟩
theorem vals {α : Type} {p : α → Prop} (l : List { a : α // p a }) : ∀ x ∈ l.map (·.1), p x := fun x hx => by
  obtain ⟨a, _, rfl⟩ := List.mem_map.1 hx
  exact a.2
abbrev TL : Type := { t : T // LenT t }
abbrev EL : Type := { e : E // LenE e }
abbrev FL : Type := { f : Fld // LenT f.typ }
abbrev NL : Type := { f : Fnc // LenFn f }
theorem some_at {α : Type} (xs : List α) (i : Nat) (h : i < xs.length) : xs[i]? = some xs[i] := List.getElem?_eq_getElem h
theorem rep_T : ∀ fuel cs x, DataW.trod enc Try.prog w base spare held fuel 55 cs = some x → ∃ t : TL, RowRep w 2 (fun t : TL => T.row t.1) t cs := by
  intro fuel
  induction fuel using Nat.strongRecOn with
  | ind fuel ih =>
    intro cs x h
    obtain ⟨xs, n, hn, _, hl, hxs, hat⟩ := DataW.trod_struct Try.underlying55 h
    rw [c2.1] at hl
    replace hxs : xs.length = 2 := hxs
    obtain ⟨k, r0⟩ := f_int (hat 0 _ rfl) (some_at xs 0 (by omega))
    obtain ⟨l, hll, r1⟩ := f_list (row := fun t : TL => T.row t.1) Try.underlying53 c1.2.2.2.2.2.2.2 c2.1 (by omega) (fun m hm => ih m (by omega)) (hat 1 _ rfl) (some_at xs 1 (by omega))
    refine ⟨⟨.mk k (l.map (·.1)), by rw [LenT]; exact ⟨by rw [List.length_map]; exact hll, lenTs_all _ (vals l)⟩⟩, hl, fun j hj => ?_⟩
    show RepD _ _ (dat (T.row (.mk k (l.map (·.1)))) j) _
    rw [T.row, T.rows_map, List.map_map]
    match j, hj with
    | 0, _ => exact r0
    | 1, _ => exact r1
theorem rep_E : ∀ fuel cs x, DataW.trod enc Try.prog w base spare held fuel 27 cs = some x → ∃ t : EL, RowRep w 8 (fun t : EL => E.row t.1) t cs := by
  intro fuel
  induction fuel using Nat.strongRecOn with
  | ind fuel ih =>
    intro cs x h
    obtain ⟨xs, n, hn, _, hl, hxs, hat⟩ := DataW.trod_struct Try.underlying27 h
    rw [c2.2.1] at hl
    replace hxs : xs.length = 8 := hxs
    obtain ⟨k, r0⟩ := f_int (hat 0 _ rfl) (some_at xs 0 (by omega))
    obtain ⟨nn, r1⟩ := f_int (hat 1 _ rfl) (some_at xs 1 (by omega))
    obtain ⟨s, r2⟩ := f_str (hat 2 _ rfl) (some_at xs 2 (by omega))
    obtain ⟨ns, hns, r3⟩ := f_list (row := fun s : List UInt8 => [D.str (bx s)]) Try.underlying23 c1.2.2.1 c1.2.1 (by omega) (fun m hm => rep_str m) (hat 3 _ rfl) (some_at xs 3 (by omega))
    obtain ⟨os, hos, r4⟩ := f_list (row := fun n : Int => [D.int IntKind.i64 n]) Try.underlying24 c1.2.2.2.1 c1.1 (by omega) (fun m hm => rep_int m) (hat 4 _ rfl) (some_at xs 4 (by omega))
    obtain ⟨l, hll, r5⟩ := f_list (row := fun t : EL => E.row t.1) Try.underlying25 c1.2.2.2.2.1 c2.2.1 (by omega) (fun m hm => ih m (by omega)) (hat 5 _ rfl) (some_at xs 5 (by omega))
    obtain ⟨a, r6⟩ := f_int (hat 6 _ rfl) (some_at xs 6 (by omega))
    obtain ⟨b, r7⟩ := f_int (hat 7 _ rfl) (some_at xs 7 (by omega))
    refine ⟨⟨.mk k nn s ns os (l.map (·.1)) a b, by rw [LenE]; exact ⟨⟨hns, hos, by rw [List.length_map]; exact hll⟩, lenEs_all _ (vals l)⟩⟩, hl, fun j hj => ?_⟩
    show RepD _ _ (dat (E.row (.mk k nn s ns os (l.map (·.1)) a b)) j) _
    rw [E.row, E.rows_map, List.map_map]
    match j, hj with
    | 0, _ => exact r0
    | 1, _ => exact r1
    | 2, _ => exact r2
    | 3, _ => exact r3
    | 4, _ => exact r4
    | 5, _ => exact r5
    | 6, _ => exact r6
    | 7, _ => exact r7
theorem f_T {n off : Nat} {cs : List Value} {y : Option (DataW H × List MemPlace)} {z : DataW H × List MemPlace} (h : DataW.trod enc Try.prog w base spare held n 55 ((cs.drop off).take (Try.prog.cellsOf 55)) = y) (hy : y = some z) : ∃ t : T, LenT t ∧ ∀ j, j < 2 → RepD w (cellsIn w) (dat (T.row t) j) (cs.getD (off + j) undef) := by
  rw [c2.1, hy] at h
  obtain ⟨t, _, hr⟩ := rep_T _ _ _ h
  exact ⟨t.1, t.2, fun j hj => by rw [← sub_get cs off 2 j hj]; exact hr j hj⟩
theorem f_E {n off : Nat} {cs : List Value} {y : Option (DataW H × List MemPlace)} {z : DataW H × List MemPlace} (h : DataW.trod enc Try.prog w base spare held n 27 ((cs.drop off).take (Try.prog.cellsOf 27)) = y) (hy : y = some z) : ∃ t : E, LenE t ∧ ∀ j, j < 8 → RepD w (cellsIn w) (dat (E.row t) j) (cs.getD (off + j) undef) := by
  rw [c2.2.1, hy] at h
  obtain ⟨t, _, hr⟩ := rep_E _ _ _ h
  exact ⟨t.1, t.2, fun j hj => by rw [← sub_get cs off 8 j hj]; exact hr j hj⟩
theorem rep_F : ∀ fuel cs x, DataW.trod enc Try.prog w base spare held fuel 74 cs = some x → ∃ t : FL, RowRep w 5 (fun t : FL => Fld.row t.1) t cs := by
  intro fuel cs x h
  obtain ⟨xs, n, hn, _, hl, hxs, hat⟩ := DataW.trod_struct Try.underlying74 h
  rw [c2.2.2.1] at hl
  replace hxs : xs.length = 4 := hxs
  obtain ⟨s, r0⟩ := f_str (hat 0 _ rfl) (some_at xs 0 (by omega))
  obtain ⟨t, ht, r1⟩ := f_T (hat 1 _ rfl) (some_at xs 1 (by omega))
  obtain ⟨a, r2⟩ := f_int (hat 2 _ rfl) (some_at xs 2 (by omega))
  obtain ⟨b, r3⟩ := f_int (hat 3 _ rfl) (some_at xs 3 (by omega))
  refine ⟨⟨⟨s, t, a, b⟩, ht⟩, hl, fun j hj => ?_⟩
  simp only [T.row_eq] at r1
  show RepD _ _ (dat (Fld.row ⟨s, t, a, b⟩) j) _
  rw [Fld.row_eq]
  match j, hj with
  | 0, _ => exact r0
  | 1, _ => exact r1 0 (by omega)
  | 2, _ => exact r1 1 (by omega)
  | 3, _ => exact r2
  | 4, _ => exact r3
theorem rep_N : ∀ fuel cs x, DataW.trod enc Try.prog w base spare held fuel 57 cs = some x → ∃ t : NL, RowRep w 14 (fun t : NL => Fnc.row t.1) t cs := by
  intro fuel cs x h
  obtain ⟨xs, n, hn, _, hl, hxs, hat⟩ := DataW.trod_struct Try.underlying57 h
  rw [c2.2.2.2.1] at hl
  replace hxs : xs.length = 6 := hxs
  obtain ⟨s, r0⟩ := f_str (hat 0 _ rfl) (some_at xs 0 (by omega))
  obtain ⟨l, hll, r1⟩ := f_list (row := fun t : FL => Fld.row t.1) Try.underlying35 c1.2.2.2.2.2.1 c2.2.2.1 (by omega) (fun m hm => rep_F m) (hat 1 _ rfl) (some_at xs 1 (by omega))
  obtain ⟨t, ht, r2⟩ := f_T (hat 2 _ rfl) (some_at xs 2 (by omega))
  obtain ⟨e, he, r3⟩ := f_E (hat 3 _ rfl) (some_at xs 3 (by omega))
  obtain ⟨a, r4⟩ := f_int (hat 4 _ rfl) (some_at xs 4 (by omega))
  obtain ⟨b, r5⟩ := f_int (hat 5 _ rfl) (some_at xs 5 (by omega))
  refine ⟨⟨⟨s, l.map (·.1), t, e, a, b⟩, ⟨by rw [List.length_map]; exact hll, vals l, ht, he⟩⟩, hl, fun j hj => ?_⟩
  simp only [T.row_eq] at r2
  simp only [E.row_eq] at r3
  have e1 : l.map (fun t : FL => Fld.row t.1) = Fld.rows (l.map (·.1)) := by unfold Fld.rows; rw [List.map_map]; rfl
  rw [e1] at r1
  show RepD _ _ (dat (Fnc.row ⟨s, l.map (·.1), t, e, a, b⟩) j) _
  rw [Fnc.row_eq]
  match j, hj with
  | 0, _ => exact r0
  | 1, _ => exact r1
  | 2, _ => exact r2 0 (by omega)
  | 3, _ => exact r2 1 (by omega)
  | 4, _ => exact r3 0 (by omega)
  | 5, _ => exact r3 1 (by omega)
  | 6, _ => exact r3 2 (by omega)
  | 7, _ => exact r3 3 (by omega)
  | 8, _ => exact r3 4 (by omega)
  | 9, _ => exact r3 5 (by omega)
  | 10, _ => exact r3 6 (by omega)
  | 11, _ => exact r3 7 (by omega)
  | 12, _ => exact r4
  | 13, _ => exact r5
/-- A program, handed over. -/
theorem arg_P {fuel : Nat} {v : Value} {x : DataW H × List MemPlace} (hv : ∃ u, v = .agg u) (h : DataW.trod enc Try.prog w base spare held fuel 38 v.cells.toList = some x) : ∃ p : Pg, LenP p ∧ RepV (g0 w) (pV p) v := by
  obtain ⟨u, rfl⟩ := hv
  obtain ⟨xs, n, hn, _, hl, hxs, hat⟩ := DataW.trod_struct Try.underlying38 h
  rw [c2.2.2.2.2] at hl
  replace hxs : xs.length = 3 := hxs
  obtain ⟨l, hll, r0⟩ := f_list (row := fun t : FL => Fld.row t.1) Try.underlying35 c1.2.2.2.2.2.1 c2.2.2.1 (by omega) (fun m hm => rep_F m) (hat 0 _ rfl) (some_at xs 0 (by omega))
  obtain ⟨q, hql, r1⟩ := f_list (row := fun t : NL => Fnc.row t.1) Try.underlying36 c1.2.2.2.2.2.2.1 c2.2.2.2.1 (by omega) (fun m hm => rep_N m) (hat 1 _ rfl) (some_at xs 1 (by omega))
  obtain ⟨e, he, r2⟩ := f_E (hat 2 _ rfl) (some_at xs 2 (by omega))
  have e1 : l.map (fun t : FL => Fld.row t.1) = Fld.rows (l.map (·.1)) := by unfold Fld.rows; rw [List.map_map]; rfl
  have e2 : q.map (fun t : NL => Fnc.row t.1) = Fnc.rows (q.map (·.1)) := by unfold Fnc.rows; rw [List.map_map]; rfl
  rw [e1] at r0
  rw [e2] at r1
  simp only [E.row_eq] at r2
  refine ⟨⟨l.map (·.1), q.map (·.1), e⟩, ⟨by rw [List.length_map]; exact hll, vals l, by rw [List.length_map]; exact hql, vals q, he⟩, ?_⟩
  have key := RepV.agg (g := g0 w) (pX ⟨l.map (·.1), q.map (·.1), e⟩) u.toList hl (fun j hj => by
    replace hj : j < 10 := hj
    match j, hj with
    | 0, _ => exact .d _ _ r0
    | 1, _ => exact .d _ _ r1
    | 2, _ => exact .d _ _ (r2 0 (by omega))
    | 3, _ => exact .d _ _ (r2 1 (by omega))
    | 4, _ => exact .d _ _ (r2 2 (by omega))
    | 5, _ => exact .d _ _ (r2 3 (by omega))
    | 6, _ => exact .d _ _ (r2 4 (by omega))
    | 7, _ => exact .d _ _ (r2 5 (by omega))
    | 8, _ => exact .d _ _ (r2 6 (by omega))
    | 9, _ => exact .d _ _ (r2 7 (by omega)))
  exact key
end
end Go.Proofs.Ytbmcafehpgimfaa.Ps
