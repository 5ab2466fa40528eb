/- Trees and tokens as data of the evaluator. -/
import Derived.Test.YtbmcafehpgimfaaPv0
import Derived.Test.YtbmcafehpgimfaaGq
namespace Go.Proofs.Ytbmcafehpgimfaa.Ps
set_option linter.unusedVariables false
set_option linter.unusedSimpArgs false
open Go Go.RowKit Px
open Lx (Tok)

def bx (l : List UInt8) : ByteArray := ⟨l.toArray⟩
theorem bx_data (l : List UInt8) : (bx l).data.toList = l := by simp [bx]
theorem bx_self (s : ByteArray) : bx s.data.toList = s := by
  obtain ⟨⟨l⟩⟩ := s
  rfl
theorem bx_inj {a b : List UInt8} (h : bx a = bx b) : a = b := by
  have := congrArg (fun s : ByteArray => s.data.toList) h
  simpa [bx_data] using this
theorem bx_size (l : List UInt8) : (bx l).size = l.length := by simp [bx, ByteArray.size]
theorem bx_append (a b : List UInt8) : bx a ++ bx b = bx (a ++ b) := by
  apply ByteArray.ext
  rw [ByteArray.data_append]
  simp [bx]
theorem beqL_eq (a b : List UInt8) : beqL a b = (a == b) := by
  rw [Bool.eq_iff_iff, beqL_iff, beq_iff_eq]
def Tok.row (t : Tok) : List D := [.int .i64 t.kind, .str (bx t.text), .int .i64 t.n, .int .i64 t.line, .int .i64 t.col]
def toks (l : List Tok) : List (List D) := l.map Tok.row
theorem toks_len (l : List Tok) : (toks l).length = l.length := List.length_map ..
theorem toks_at (l : List Tok) (i : Nat) (h : i < l.length) : (toks l).getD i [] = Tok.row (tk l i) := by
  unfold toks tk
  rw [List.getD_eq_getElem?_getD, List.getD_eq_getElem?_getD, List.getElem?_map, List.getElem?_eq_getElem h]
  rfl
def strs (l : List (List UInt8)) : List (List D) := l.map fun s => [.str (bx s)]
def ints (l : List Int) : List (List D) := l.map fun n => [.int .i64 n]
mutual
def T.row : T → List D
  | .mk k l => [.int .i64 k, .list 2 (T.rows l)]
def T.rows : List T → List (List D)
  | [] => []
  | t :: r => T.row t :: T.rows r
end
mutual
def E.row : E → List D
  | .mk k n s ns os ks a b => [.int .i64 k, .int .i64 n, .str (bx s), .list 1 (strs ns), .list 1 (ints os), .list 8 (E.rows ks), .int .i64 a, .int .i64 b]
def E.rows : List E → List (List D)
  | [] => []
  | t :: r => E.row t :: E.rows r
end
def Fld.row (f : Fld) : List D := [.str (bx f.name), .int .i64 f.typ.k, .list 2 (T.rows f.typ.l), .int .i64 f.line, .int .i64 f.col]
def Fld.rows (l : List Fld) : List (List D) := l.map Fld.row
def Fnc.row (f : Fnc) : List D := [.str (bx f.name), .list 5 (Fld.rows f.params), .int .i64 f.res.k, .list 2 (T.rows f.res.l)] ++ E.row f.body ++ [.int .i64 f.line, .int .i64 f.col]
def Fnc.rows (l : List Fnc) : List (List D) := l.map Fnc.row
theorem T.row_eq (t : T) : T.row t = [.int .i64 t.k, .list 2 (T.rows t.l)] := by cases t; rw [T.row]; rfl
theorem E.row_eq (e : E) : E.row e = [.int .i64 e.k, .int .i64 e.n, .str (bx e.name), .list 1 (strs e.names), .list 1 (ints e.odds), .list 8 (E.rows e.kids), .int .i64 e.line, .int .i64 e.col] := by cases e; rw [E.row]; rfl
theorem T.rows_map : ∀ l : List T, T.rows l = l.map T.row
  | [] => by rw [T.rows]; rfl
  | t :: r => by rw [T.rows, T.rows_map r]; rfl
theorem E.rows_map : ∀ l : List E, E.rows l = l.map E.row
  | [] => by rw [E.rows]; rfl
  | t :: r => by rw [E.rows, E.rows_map r]; rfl
theorem rows_getD {α : Type} [Inhabited α] (f : α → List D) (l : List α) (i : Nat) (h : i < l.length) : (l.map f).getD i [] = f (l.getD i default) := by
  rw [List.getD_eq_getElem?_getD, List.getD_eq_getElem?_getD, List.getElem?_map, List.getElem?_eq_getElem h]
  rfl
abbrev iX (n : Int) : X := X.d (D.int IntKind.i64 n)
abbrev sX (s : List UInt8) : X := X.d (D.str (bx s))
abbrev bX (b : Bool) : X := X.d (D.bool b)
def eV (e : E) : V := V.agg [X.d (D.int IntKind.i64 e.k), X.d (D.int IntKind.i64 e.n), X.d (D.str (bx e.name)), X.d (D.list 1 (strs e.names)), X.d (D.list 1 (ints e.odds)), X.d (D.list 8 (E.rows e.kids)), X.d (D.int IntKind.i64 e.line), X.d (D.int IntKind.i64 e.col)]
def tV (t : T) : V := V.agg [X.d (D.int IntKind.i64 t.k), X.d (D.list 2 (T.rows t.l))]
def fV (f : Fld) : V := V.agg [X.d (D.str (bx f.name)), X.d (D.int IntKind.i64 f.typ.k), X.d (D.list 2 (T.rows f.typ.l)), X.d (D.int IntKind.i64 f.line), X.d (D.int IntKind.i64 f.col)]
def kV (t : Tok) : V := V.agg [X.d (D.int IntKind.i64 t.kind), X.d (D.str (bx t.text)), X.d (D.int IntKind.i64 t.n), X.d (D.int IntKind.i64 t.line), X.d (D.int IntKind.i64 t.col)]
theorem wrap_in (n : Int) (h : -9223372036854775808 ≤ n) (h' : n ≤ 9223372036854775807) : IntKind.wrap .i64 n = n := by
  have e1 : IntKind.bits .i64 = 64 := rfl
  have e2 : IntKind.signed .i64 = true := rfl
  have e3 : (2 ^ 64 : Int) = 18446744073709551616 := rfl
  have e4 : (2 ^ 63 : Int) = 9223372036854775808 := rfl
  unfold IntKind.wrap
  simp only [e1, e2, e3, e4, Bool.true_and, decide_eq_true_eq, ge_iff_le]
  omega
theorem wrap_up (i : Nat) (h : i < 9223372036854775807) : IntKind.wrap .i64 (Int.ofNat i + 1) = Int.ofNat (i + 1) := wrap_in _ (by have := Int.natCast_nonneg i; simp only [Int.ofNat_eq_natCast]; omega) (by simp only [Int.ofNat_eq_natCast]; omega)
theorem lt_yes (i n : Nat) (h : i < n) : decide (Int.ofNat i < Int.ofNat n) = true := decide_eq_true (Int.ofNat_lt.2 h)
theorem lt_no (i n : Nat) (h : n ≤ i) : decide (Int.ofNat i < Int.ofNat n) = false := decide_eq_false (fun k => by have := Int.ofNat_lt.1 k; omega)
theorem in_range (i n : Nat) (h : i < n) : (decide ((0 : Int) ≤ Int.ofNat i) && decide (Int.ofNat i < Int.ofNat n)) = true := by
  simp only [Int.ofNat_eq_natCast, Bool.and_eq_true, decide_eq_true_eq]
  omega
theorem tn (i : Nat) : Int.toNat (Int.ofNat i) = i := rfl
end Go.Proofs.Ytbmcafehpgimfaa.Ps
