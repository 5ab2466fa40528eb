/- Trees and tokens as data of the evaluator. The program's lexer: what the plain scanner tells. From what the rows' condition gives to the evaluator, and back: a law that is true runs so. The program's lexer over a whole text. What the program's readers are to do, as a relation to the small readers; the steps that all share. The program's reader of types. The program's readers: the steps that read an expression, a field, a list; operators. The program's readers of expressions: the loops and the levels. The program's reader of expressions: names, choices, and the head of an expression. The program's reader of atoms; all readers of expressions, by what is left of the text. The program's readers of fields, functions and programs. What the scanner's tokens are like; reading a whole text, with the panic taken up. How deep an expression, a type and a program go. The limits on types and programs. Expr and Program: what they hand back. What the answers tell of the readings. The plain laws of reading. The plain laws of brackets and of gaps. Same and SameProgram: what they answer. The law of brackets. -/
import Derived.Test.YtbmcafehpgimfaaPv0
import Derived.Test.YtbmcafehpgimfaaXaa
import Derived.Test.YtbmcafehpgimfaaPvL
import Derived.Test.YtbmcafehpgimfaaPw3
import Derived.ProofKit
import Derived.OpenShut
import Derived.Test.YtbmcafehpgimfaaPvP
import Derived.Test.YtbmcafehpgimfaaPvE
import Derived.Test.YtbmcafehpgimfaaVk
import Derived.Test.YtbmcafehpgimfaaPvS
import Derived.Test.YtbmcafehpgimfaaPvW
namespace Go.Proofs.Ytbmcafehpgimfaa.Ps
set_option linter.unusedVariables false
set_option linter.unusedSimpArgs false
open Go Go.RowKit Px
open Lx (Tok)

def bx (l : List UInt8) : ByteArray := ⟨l.toArray⟩
theorem bx_data (l : List UInt8) : (bx l).data.toList = l := by simp [bx]
theorem bx_self (s : ByteArray) : bx s.data.toList = s := by
  obtain ⟨⟨l⟩⟩ := s
  rfl
theorem bx_size (l : List UInt8) : (bx l).size = l.length := by simp [bx, ByteArray.size]
theorem bx_append (a b : List UInt8) : bx a ++ bx b = bx (a ++ b) := by
  apply ByteArray.ext
  rw [ByteArray.data_append]
  simp [bx]
theorem beqL_eq (a b : List UInt8) : beqL a b = (a == b) := by
  rw [Bool.eq_iff_iff, beqL_iff, beq_iff_eq]
def Tok.row (t : Tok) : List D := [.int .i64 t.kind, .str (bx t.text), .int .i64 t.n, .int .i64 t.line, .int .i64 t.col]
def toks (l : List Tok) : List (List D) := l.map Tok.row
theorem toks_len (l : List Tok) : (toks l).length = l.length := List.length_map ..
theorem toks_at (l : List Tok) (i : Nat) (h : i < l.length) : (toks l).getD i [] = Tok.row (tk l i) := by
  unfold toks tk
  rw [List.getD_eq_getElem?_getD, List.getD_eq_getElem?_getD, List.getElem?_map, List.getElem?_eq_getElem h]
  rfl
def strs (l : List (List UInt8)) : List (List D) := l.map fun s => [.str (bx s)]
def ints (l : List Int) : List (List D) := l.map fun n => [.int .i64 n]
mutual
def T.row : T → List D
  | .mk k l => [.int .i64 k, .list 2 (T.rows l)]
def T.rows : List T → List (List D)
  | [] => []
  | t :: r => T.row t :: T.rows r
end
mutual
def E.row : E → List D
  | .mk k n s ns os ks a b => [.int .i64 k, .int .i64 n, .str (bx s), .list 1 (strs ns), .list 1 (ints os), .list 8 (E.rows ks), .int .i64 a, .int .i64 b]
def E.rows : List E → List (List D)
  | [] => []
  | t :: r => E.row t :: E.rows r
end
def Fld.row (f : Fld) : List D := [.str (bx f.name), .int .i64 f.typ.k, .list 2 (T.rows f.typ.l), .int .i64 f.line, .int .i64 f.col]
def Fld.rows (l : List Fld) : List (List D) := l.map Fld.row
def Fnc.row (f : Fnc) : List D := [.str (bx f.name), .list 5 (Fld.rows f.params), .int .i64 f.res.k, .list 2 (T.rows f.res.l)] ++ E.row f.body ++ [.int .i64 f.line, .int .i64 f.col]
def Fnc.rows (l : List Fnc) : List (List D) := l.map Fnc.row
theorem T.row_eq (t : T) : T.row t = [.int .i64 t.k, .list 2 (T.rows t.l)] := by cases t; rw [T.row]; rfl
theorem E.row_eq (e : E) : E.row e = [.int .i64 e.k, .int .i64 e.n, .str (bx e.name), .list 1 (strs e.names), .list 1 (ints e.odds), .list 8 (E.rows e.kids), .int .i64 e.line, .int .i64 e.col] := by cases e; rw [E.row]; rfl
theorem T.rows_map : ∀ l : List T, T.rows l = l.map T.row
  | [] => by rw [T.rows]; rfl
  | t :: r => by rw [T.rows, T.rows_map r]; rfl
theorem E.rows_map : ∀ l : List E, E.rows l = l.map E.row
  | [] => by rw [E.rows]; rfl
  | t :: r => by rw [E.rows, E.rows_map r]; rfl
theorem rows_getD {α : Type} [Inhabited α] (f : α → List D) (l : List α) (i : Nat) (h : i < l.length) : (l.map f).getD i [] = f (l.getD i default) := by
  rw [List.getD_eq_getElem?_getD, List.getD_eq_getElem?_getD, List.getElem?_map, List.getElem?_eq_getElem h]
  rfl
abbrev iX (n : Int) : X := X.d (D.int IntKind.i64 n)
abbrev sX (s : List UInt8) : X := X.d (D.str (bx s))
abbrev bX (b : Bool) : X := X.d (D.bool b)
def eV (e : E) : V := V.agg [X.d (D.int IntKind.i64 e.k), X.d (D.int IntKind.i64 e.n), X.d (D.str (bx e.name)), X.d (D.list 1 (strs e.names)), X.d (D.list 1 (ints e.odds)), X.d (D.list 8 (E.rows e.kids)), X.d (D.int IntKind.i64 e.line), X.d (D.int IntKind.i64 e.col)]
def tV (t : T) : V := V.agg [X.d (D.int IntKind.i64 t.k), X.d (D.list 2 (T.rows t.l))]
def fV (f : Fld) : V := V.agg [X.d (D.str (bx f.name)), X.d (D.int IntKind.i64 f.typ.k), X.d (D.list 2 (T.rows f.typ.l)), X.d (D.int IntKind.i64 f.line), X.d (D.int IntKind.i64 f.col)]
def kV (t : Tok) : V := V.agg [X.d (D.int IntKind.i64 t.kind), X.d (D.str (bx t.text)), X.d (D.int IntKind.i64 t.n), X.d (D.int IntKind.i64 t.line), X.d (D.int IntKind.i64 t.col)]
theorem wrap_in (n : Int) (h : -9223372036854775808 ≤ n) (h' : n ≤ 9223372036854775807) : IntKind.wrap .i64 n = n := by
  have e1 : IntKind.bits .i64 = 64 := rfl
  have e2 : IntKind.signed .i64 = true := rfl
  have e3 : (2 ^ 64 : Int) = 18446744073709551616 := rfl
  have e4 : (2 ^ 63 : Int) = 9223372036854775808 := rfl
  unfold IntKind.wrap
  simp only [e1, e2, e3, e4, Bool.true_and, decide_eq_true_eq, ge_iff_le]
  omega
theorem wrap_up (i : Nat) (h : i < 9223372036854775807) : IntKind.wrap .i64 (Int.ofNat i + 1) = Int.ofNat (i + 1) := wrap_in _ (by have := Int.natCast_nonneg i; simp only [Int.ofNat_eq_natCast]; omega) (by simp only [Int.ofNat_eq_natCast]; omega)
theorem lt_yes (i n : Nat) (h : i < n) : decide (Int.ofNat i < Int.ofNat n) = true := decide_eq_true (Int.ofNat_lt.2 h)
theorem lt_no (i n : Nat) (h : n ≤ i) : decide (Int.ofNat i < Int.ofNat n) = false := decide_eq_false (fun k => by have := Int.ofNat_lt.1 k; omega)
theorem in_range (i n : Nat) (h : i < n) : (decide ((0 : Int) ≤ Int.ofNat i) && decide (Int.ofNat i < Int.ofNat n)) = true := by
  simp only [Int.ofNat_eq_natCast, Bool.and_eq_true, decide_eq_true_eq]
  omega
theorem tn (i : Nat) : Int.toNat (Int.ofNat i) = i := rfl
end Go.Proofs.Ytbmcafehpgimfaa.Ps
namespace Go.Proofs.Ytbmcafehpgimfaa.Ps
set_option linter.unusedVariables false
set_option linter.unusedSimpArgs false
set_option maxRecDepth 4000
open Go Go.RowKit Px Lx

def tokV : Lx.R → V
  | .ok k w n => V.tup [V.agg [iX k, sX w, iX n, iX 0, iX 0], V.one (iX 0)]
  | .bad e w => V.tup [V.agg [iX 0, sX w, iX 0, iX 0, iX 0], V.one (iX e)]
abbrev RV (v : V) : Out := ⟨true, v, D.junk, [], 0⟩
theorem mem_takeWhile (p : UInt8 → Bool) : ∀ (l : List UInt8) (x : UInt8), x ∈ l.takeWhile p → p x = true
  | [], x, h => by simp at h
  | c :: t, x, h => by
    by_cases hc : p c = true
    · rw [List.takeWhile_cons_of_pos hc] at h
      rcases List.mem_cons.1 h with h | h
      · rw [h]; exact hc
      · exact mem_takeWhile p t x h
    · rw [List.takeWhile_cons_of_neg hc] at h; simp at h
theorem drop_cases (l : List UInt8) (i : Nat) (hi : i ≤ l.length) : (i = l.length ∧ l.drop i = []) ∨ (i < l.length ∧ ∃ c t, l.drop i = c :: t ∧ l.drop (i + 1) = t) := by
  by_cases h : i < l.length
  · refine .inr ⟨h, l[i], l.drop (i + 1), List.drop_eq_getElem_cons h, rfl⟩
  · exact .inl ⟨by omega, List.drop_eq_nil_of_le (by omega)⟩
theorem ext_bx (l : List UInt8) (a b : Nat) : (bx l).extract a b = bx ((l.take b).drop a) := by
  apply ByteArray.ext
  rw [ByteArray.data_extract]
  simp [bx, List.drop_take]
theorem get_bx (l : List UInt8) (i : Nat) (c : UInt8) (t : List UInt8) (h : l.drop i = c :: t) : ByteArray.get! (bx l) (Int.toNat (Int.ofNat i)) = c := by
  have hi : i < l.length := by
    by_cases hi : i < l.length
    · exact hi
    · rw [List.drop_eq_nil_of_le (by omega)] at h; cases h
  have h2 : l[i] = c := by
    rw [List.drop_eq_getElem_cons hi] at h
    injection h
  show (bx l).data[i]! = c
  have : (bx l).data = l.toArray := rfl
  rw [this, getElem!_pos _ _ (by simpa using hi)]
  simpa using h2
theorem get_bx0 (c : UInt8) (t : List UInt8) : ByteArray.get! (bx (c :: t)) 0 = c := get_bx (c :: t) 0 c t rfl
theorem C_small (c : UInt8) : Cal 76 [V.one (X.d (D.int IntKind.u8 (Int.ofNat c.toNat)))] [] (RV (V.one (bX (sm c)))) := by
  refine call76 _ (Ev.of fun m k n => ?_)
  rw [e76_eq]
  unfold sm
  have e1 : decide (Int.ofNat c.toNat ≥ 97) = decide (97 ≤ c.toNat) := decide_eq_decide.2 (by simp only [Int.ofNat_eq_natCast]; omega)
  have e2 : decide (Int.ofNat c.toNat ≤ 122) = decide (c.toNat ≤ 122) := decide_eq_decide.2 (by simp only [Int.ofNat_eq_natCast]; omega)
  rw [e1, e2]
  cases decide (97 ≤ c.toNat) <;> rfl
theorem C_digit (c : UInt8) : Cal 77 [V.one (X.d (D.int IntKind.u8 (Int.ofNat c.toNat)))] [] (RV (V.one (bX (dg c)))) := by
  refine call77 _ (Ev.of fun m k n => ?_)
  rw [e77_eq]
  unfold dg
  have e1 : decide (Int.ofNat c.toNat ≥ 48) = decide (48 ≤ c.toNat) := decide_eq_decide.2 (by simp only [Int.ofNat_eq_natCast]; omega)
  have e2 : decide (Int.ofNat c.toNat ≤ 57) = decide (c.toNat ≤ 57) := decide_eq_decide.2 (by simp only [Int.ofNat_eq_natCast]; omega)
  rw [e1, e2]
  cases decide (48 ≤ c.toNat) <;> rfl
theorem lib_step {f : FuncId} {args : List V} {rows : List (List Lf × List X)} {k : Nat} (h : progV f = none) : Ak (k + 1) false f args rows = libV (Ak k false) f args rows := by
  have e : Ak (k + 1) false f args rows = (match progV f with
    | some fn => cond (Nat.beq args.length fn.nparams) (runF (Ak k) shp rc false (shp f) fn k args rows) none
    | none => cond false none (libV (Ak k false) f args rows)) := rfl
  rw [e, h]
  rfl
theorem C_lcontains (s t : ByteArray) (h : s.size < 4294967281) : Cal 78 [V.one (X.d (D.str s)), V.one (X.d (D.str t))] [] (RV (V.one (bX (Lib.contains s.data.toList t.data.toList)))) := by
  refine ⟨1, fun m k n h1 h2 h3 => ?_⟩
  obtain ⟨k, rfl⟩ : ∃ k', k = k' + 1 := ⟨k - 1, by omega⟩
  refine (lib_step (by kernel_rfl)).trans ?_
  show cond (Nat.blt s.size 4294967281) _ none = _
  rw [show Nat.blt s.size 4294967281 = true from Nat.ble_eq_true_of_le h]
  rfl
theorem C_lindex (s : ByteArray) (c : Int) : Cal 93 [V.one (X.d (D.str s)), V.one (X.d (D.int IntKind.u8 c))] [] (RV (V.one (iX (Lib.indexByte s.data.toList c.toNat.toUInt8)))) := by
  refine ⟨1, fun m k n h1 h2 h3 => ?_⟩
  obtain ⟨k, rfl⟩ : ∃ k', k = k' + 1 := ⟨k - 1, by omega⟩
  refine (lib_step (by kernel_rfl)).trans ?_
  rfl

/-! ### Words -/
section
variable {x2 x3 x4 x5 x6 x7 : Int} {s3 s4 : ByteArray}
theorem L_word (l : List UInt8) (hl : l.length ≤ 1000000) : ∀ (d i : Nat), i ≤ l.length → l.length - i = d → ∀ r, Ev (fun m k n => q47_1 (Ak k) n (bx l) (Int.ofNat (i + ((l.drop i).takeWhile nm).length)) x2 s3 x4 x5 x6) r →
    Ev (fun m k n => l47_0 m (Ak k) n (bx l) (Int.ofNat i) x2 s3 x4 x5 x6) r := by
  intro d
  induction d with
  | zero =>
    intro i hi hd r h
    rw [List.drop_eq_nil_of_le (by omega)] at h
    refine Ev.step ?_
    simp only [l47_0_eq]
    exact Ev.no (lt_no i _ (by rw [bx_size]; omega)) h
  | succ d ih =>
    intro i hi hd r h
    rcases drop_cases l i hi with ⟨e, _⟩ | ⟨hlt, c, t, hc, ht⟩
    · omega
    · have hb := get_bx l i c t hc
      rw [hc] at h
      refine Ev.step ?_
      simp only [l47_0_eq, hb]
      refine Ev.yes (lt_yes i _ (by rw [bx_size]; exact hlt)) (Ev.yes (in_range i _ (by rw [bx_size]; exact hlt)) ?_)
      refine v_oB (C_small c) ?_
      by_cases hn : nm c = true
      · rw [List.takeWhile_cons_of_pos hn] at h
        have h2 := ih (i + 1) (by omega) (by omega) r (by rw [ht]; simpa [Nat.add_assoc, Nat.add_comm 1] using h)
        have go : Ev (fun m k n => q47_0 (Ak k) m n (bx l) (Int.ofNat i) x2 s3 x4 x5 x6) r := by
          simp only [q47_0_eq, wrap_up i (show i < 9223372036854775807 by omega)]
          exact h2
        cases h1 : sm c with
        | true => exact Ev.yes rfl go
        | false =>
          refine Ev.no rfl (Ev.yes (in_range i _ (by rw [bx_size]; exact hlt)) (v_oB (C_digit c) ?_))
          cases h3 : dg c with
          | true => exact Ev.yes rfl go
          | false =>
            refine Ev.no rfl (Ev.yes (in_range i _ (by rw [bx_size]; exact hlt)) (Ev.yes ?_ go))
            rw [beq_iff_eq]
            simp [nm, h1, h3] at hn
            rw [hn]; rfl
      · rw [List.takeWhile_cons_of_neg hn] at h
        have h1 : sm c = false := by
          cases e : sm c
          · rfl
          · exact absurd (sm_nm e) hn
        have h3 : dg c = false := by
          cases e : dg c
          · rfl
          · exact absurd (by simp [nm, e]) hn
        rw [h1]
        refine Ev.no rfl (Ev.yes (in_range i _ (by rw [bx_size]; exact hlt)) (v_oB (C_digit c) ?_))
        rw [h3]
        refine Ev.no rfl (Ev.yes (in_range i _ (by rw [bx_size]; exact hlt)) (Ev.no ?_ h))
        rw [beq_eq_false_iff_ne]
        intro e
        refine hn ?_
        have : c.toNat = 95 := by
          have e' : ((c.toNat : Nat) : Int) = 95 := e
          omega
        simp [nm, this]
theorem cut_ok (l : List UInt8) (n : Nat) (hn : n ≤ l.length) : (decide ((0 : Int) ≤ Int.ofNat n) && decide (Int.ofNat n ≤ Int.ofNat (bx l).size) && true && decide ((0 : Int) ≤ Int.ofNat n)) = true := by
  rw [bx_size]
  simp only [Int.ofNat_eq_natCast, Bool.and_eq_true, decide_eq_true_eq, and_true]
  omega
theorem Q_word (l : List UInt8) (n : Nat) (hl : l.length ≤ 1000000) (hn : n ≤ l.length) (hw : ∀ c ∈ l.take n, nm c = true) (hne : l.take n ≠ []) :
    Ev (fun _ k m => q47_1 (Ak k) m (bx l) (Int.ofNat n) x2 s3 x4 x5 x6) (RV (tokV (if 24 < n then .bad 2 (l.take n) else if isWord (l.take n) then .ok 2 (l.take n) 0 else .ok 1 (l.take n) 0))) := by
  have he : (bx l).extract 0 (Int.toNat (Int.ofNat n)) = bx (l.take n) := by rw [ext_bx]; rfl
  simp only [q47_1_eq, he]
  by_cases h : 24 < n
  · rw [if_pos h]
    exact Ev.yes (decide_eq_true (by show (24 : Int) < Int.ofNat n; simp only [Int.ofNat_eq_natCast]; omega)) (Ev.yes (cut_ok l n hn) (Ev.ret _))
  · rw [if_neg h]
    refine Ev.no (decide_eq_false (by show ¬ (24 : Int) < Int.ofNat n; simp only [Int.ofNat_eq_natCast]; omega)) ?_
    simp only [q47_2_eq, he]
    refine Ev.yes (cut_ok l n hn) (Ev.yes (Nat.ble_eq_true_of_le (by rw [bx_size, List.length_take]; omega)) (Ev.yes (Nat.ble_eq_true_of_le ?_) ?_))
    · show (bx [32] ++ bx (l.take n)).size + 1 ≤ _
      rw [bx_append, bx_size, List.length_append, List.length_take, List.length_singleton]; omega
    have hc := C_lcontains (bx wordText) (bx [32] ++ bx (l.take n) ++ bx [32]) (by rw [bx_size]; decide)
    have e1 : Lib.contains (bx wordText).data.toList (bx [32] ++ bx (l.take n) ++ bx [32]).data.toList = isWord (l.take n) := by
      rw [bx_append, bx_append, bx_data, bx_data, ← contains_isWord _ hw hne]
      simp
    rw [e1] at hc
    refine v_oB hc ?_
    cases hi : isWord (l.take n) with
    | true => exact Ev.yes rfl (Ev.yes (cut_ok l n hn) (Ev.ret _))
    | false =>
      refine Ev.no rfl ?_
      simp only [q47_3_eq, he]
      exact Ev.yes (cut_ok l n hn) (Ev.ret _)
/-! ### Numbers -/
/-- A value, cut off. -/
def cap (v : Nat) : Int := if (v : Int) ≤ 2147483647 then (v : Int) else 2147483648
theorem wrap_u8 (n : Int) (h : 0 ≤ n) (h' : n < 256) : IntKind.wrap .u8 n = n := by
  have e1 : IntKind.bits .u8 = 8 := rfl
  have e2 : IntKind.signed .u8 = false := rfl
  have e3 : (2 ^ 8 : Int) = 256 := rfl
  unfold IntKind.wrap
  simp only [e1, e2, e3, Bool.false_and]
  rw [Int.emod_eq_of_lt h h']
  rfl
theorem cap_next (v : Nat) (c : UInt8) (h : 48 ≤ c.toNat) (h' : c.toNat ≤ 57) :
    (if 2147483648 < IntKind.wrap .i64 (IntKind.wrap .i64 (cap v * 10) + IntKind.wrap .i64 (IntKind.wrap .u8 (Int.ofNat c.toNat - 48))) then (2147483648 : Int) else IntKind.wrap .i64 (IntKind.wrap .i64 (cap v * 10) + IntKind.wrap .i64 (IntKind.wrap .u8 (Int.ofNat c.toNat - 48)))) = cap (v * 10 + (c.toNat - 48)) := by
  have hc : 0 ≤ cap v ∧ cap v ≤ 2147483648 := by unfold cap; split <;> omega
  simp only [Int.ofNat_eq_natCast]
  rw [wrap_u8 _ (by omega) (by omega), wrap_in ((c.toNat : Int) - 48) (by omega) (by omega), wrap_in (cap v * 10) (by omega) (by omega), wrap_in _ (by omega) (by omega)]
  unfold cap
  split <;> split <;> split <;> omega
theorem L_digits (l : List UInt8) (hl : l.length ≤ 1000000) : ∀ (d i : Nat), i ≤ l.length → l.length - i = d → (∀ c ∈ l.take i, dg c = true) →
    ∀ r, Ev (fun m k n => q47_6 (Ak k) n (bx l) (Int.ofNat (i + ((l.drop i).takeWhile dg).length)) (cap (val (l.take (i + ((l.drop i).takeWhile dg).length)))) x3 s4 x5 x6 x7) r →
    Ev (fun m k n => l47_1 m (Ak k) n (bx l) (Int.ofNat i) (cap (val (l.take i))) x3 s4 x5 x6 x7) r := by
  intro d
  induction d with
  | zero =>
    intro i hi hd hw r h
    rw [List.drop_eq_nil_of_le (by omega)] at h
    refine Ev.step ?_
    simp only [l47_1_eq]
    exact Ev.no (lt_no i _ (by rw [bx_size]; omega)) h
  | succ d ih =>
    intro i hi hd hw r h
    rcases drop_cases l i hi with ⟨e, _⟩ | ⟨hlt, c, t, hc, ht⟩
    · omega
    · have hb := get_bx l i c t hc
      have hlc : l[i] = c := by
        rw [List.drop_eq_getElem_cons hlt] at hc
        injection hc
      have hsn : l.take (i + 1) = l.take i ++ [c] := by rw [List.take_succ_eq_append_getElem hlt, hlc]
      rw [hc] at h
      refine Ev.step ?_
      simp only [l47_1_eq, hb]
      refine Ev.yes (lt_yes i _ (by rw [bx_size]; exact hlt)) (Ev.yes (in_range i _ (by rw [bx_size]; exact hlt)) ?_)
      refine v_oB (C_digit c) ?_
      by_cases hn : dg c = true
      · rw [List.takeWhile_cons_of_pos hn] at h
        have h48 : 48 ≤ c.toNat ∧ c.toNat ≤ 57 := by simpa [dg] using hn
        have h2 := ih (i + 1) (by omega) (by omega) (by rw [hsn]; intro x hx; rcases List.mem_append.1 hx with hx | hx; exact hw x hx; rw [List.mem_singleton.1 hx]; exact hn) r
          (by rw [ht]; simpa [Nat.add_assoc, Nat.add_comm 1] using h)
        rw [hsn, val_snoc] at h2
        refine Ev.yes hn ?_
        simp only [q47_4_eq, hb, cap_next _ c h48.1 h48.2]
        refine Ev.yes (in_range i _ (by rw [bx_size]; exact hlt)) ?_
        simp only [q47_5_eq, wrap_up i (show i < 9223372036854775807 by omega)]
        exact h2
      · rw [List.takeWhile_cons_of_neg hn] at h
        exact Ev.no (by simpa using hn) h
theorem Q_digits (l : List UInt8) (n : Nat) (hn : n ≤ l.length) :
    Ev (fun _ k m => q47_6 (Ak k) m (bx l) (Int.ofNat n) (cap (val (l.take n))) x3 s4 x5 x6 x7) (RV (tokV (if 2147483647 < val (l.take n) then .bad 2 (l.take n) else .ok 3 (l.take n) (val (l.take n))))) := by
  have he : (bx l).extract 0 (Int.toNat (Int.ofNat n)) = bx (l.take n) := by rw [ext_bx]; rfl
  simp only [q47_6_eq, he]
  generalize val (l.take n) = v
  by_cases h : 2147483647 < v
  · have hc : cap v = 2147483648 := by unfold cap; rw [if_neg (by omega)]
    rw [if_pos h, hc]
    exact Ev.yes rfl (Ev.yes (cut_ok l n hn) (Ev.ret _))
  · have hc : cap v = (v : Int) := by unfold cap; rw [if_pos (by omega)]
    rw [if_neg h, hc]
    refine Ev.no (decide_eq_false (by show ¬ (2147483647 : Int) < (v : Int); omega)) ?_
    simp only [q47_7_eq, he]
    exact Ev.yes (cut_ok l n hn) (Ev.ret _)

/-! ### Signs -/
theorem C_prefix (l p : List UInt8) : Cal 92 [V.one (X.d (D.str (bx l))), V.one (X.d (D.str (bx p)))] [] (RV (V.one (bX (l.take p.length == p)))) := by
  refine call92 _ _ ?_
  simp only [e92_eq]
  have h : Cal 99 [V.one (X.d (D.str (bx l))), V.one (X.d (D.str (bx p)))] [] (RV (V.one (bX (l.take p.length == p)))) := by
    refine call99 _ _ ?_
    simp only [e99_eq, bx_size]
    by_cases hle : p.length ≤ l.length
    · refine Ev.yes (decide_eq_true (by show Int.ofNat p.length ≤ Int.ofNat l.length; exact Int.ofNat_le.2 hle)) (Ev.yes ?_ (Ev.of fun m k n => ?_))
      · simp only [Int.ofNat_eq_natCast, Bool.and_eq_true, decide_eq_true_eq, and_true]
        omega
      · rw [beqL_eq, ext_bx, bx_data, bx_data]
        rfl
    · refine Ev.no (decide_eq_false (by show ¬ Int.ofNat p.length ≤ Int.ofNat l.length; simp only [Int.ofNat_eq_natCast]; omega)) (Ev.of fun m k n => ?_)
      have : (l.take p.length == p) = false := by
        rw [beq_eq_false_iff_ne]
        intro e
        have := congrArg List.length e
        rw [List.length_take] at this
        omega
      rw [this]
  exact v_oB h (Ev.ret _)
theorem L_sign (l : List UInt8) (hne : l ≠ []) : ∀ (d i : Nat), i ≤ 4 → 4 - i = d →
    Ev (fun m k n => l79_0 m (Ak k) n (bx l) (strs twos) 4 (Int.ofNat i)) (RV (V.one (sX (if has (twos.drop i) (l.take 2) then l.take 2 else if hasB ones (l.headD 0) then l.take 1 else [])))) := by
  intro d
  induction d with
  | zero =>
    intro i hi hd
    obtain rfl : i = 4 := by omega
    obtain ⟨c, t, rfl⟩ : ∃ c t, l = c :: t := by cases l with | nil => exact absurd rfl hne | cons c t => exact ⟨c, t, rfl⟩
    refine Ev.step ?_
    simp only [l79_0_eq, q79_2_eq, get_bx0]
    have hp : decide ((0 : Int) < Int.ofNat (bx (c :: t)).size) = true := decide_eq_true (by rw [bx_size]; simp only [List.length_cons, Int.ofNat_eq_natCast]; omega)
    have hp1 : decide ((1 : Int) ≤ Int.ofNat (bx (c :: t)).size) = true := decide_eq_true (by rw [bx_size]; simp only [List.length_cons, Int.ofNat_eq_natCast]; omega)
    refine Ev.no rfl (Ev.yes (by rw [hp]; rfl) ?_)
    have hi := C_lindex (bx ones) (Int.ofNat c.toNat)
    rw [show (Int.ofNat c.toNat).toNat.toUInt8 = c by simp, bx_data] at hi
    refine v_oI hi ?_
    have hz := indexByte_has ones c
    have drop4 : ¬ (has (twos.drop 4) ((c :: t).take 2) = true) := fun h => by cases h
    rw [if_neg drop4]
    by_cases h : hasB ones c = true
    · rw [if_pos (show hasB ones ((c :: t).headD 0) = true from h)]
      refine Ev.yes (decide_eq_true (hz.2 h)) (Ev.yes (by rw [hp1]; rfl) (Ev.of fun m k n => ?_))
      rw [ext_bx]
      rfl
    · rw [if_neg (show ¬ hasB ones ((c :: t).headD 0) = true from h)]
      refine Ev.no (decide_eq_false fun e => h (hz.1 e)) ?_
      exact Ev.of fun m k n => by rw [q79_3_eq]; rfl
  | succ d ih =>
    intro i hi hd
    have hlt : i < twos.length := by show i < 4; omega
    have h2 := ih (i + 1) (by omega) (by omega)
    have hdr : twos.drop i = twos[i] :: twos.drop (i + 1) := List.drop_eq_getElem_cons hlt
    have hlen : twos[i].length = 2 := by
      have : ∀ x ∈ twos, x.length = 2 := by decide
      exact this _ (List.getElem_mem hlt)
    have hat : (strs twos).getD i [] = [D.str (bx twos[i])] := by
      unfold strs
      rw [rows_getD _ _ _ hlt, List.getD_eq_getElem?_getD, List.getElem?_eq_getElem hlt]
      rfl
    refine Ev.step ?_
    simp only [l79_0_eq]
    refine Ev.yes (lt_yes i 4 (by omega)) ?_
    simp only [q79_0_eq, tn, hat]
    refine Ev.yes (in_range i _ (by rw [show (strs twos).length = 4 from rfl]; omega)) ?_
    refine v_oB (C_prefix l twos[i]) ?_
    rw [hdr, hlen]
    by_cases h : l.take 2 = twos[i]'hlt
    · refine Ev.yes (by rw [h]; simp) (Ev.of fun m k n => ?_)
      rw [has_yes _ h, if_pos rfl, h]
      rfl
    · refine Ev.no (by simpa using h) ?_
      rw [has_no _ h]
      simp only [q79_1_eq, wrap_up i (show i < 9223372036854775807 by omega)]
      exact h2
theorem C_sign (l : List UInt8) (hne : l ≠ []) : Cal 79 [V.one (X.d (D.str (bx l)))] [] (RV (V.one (sX (sgn l)))) := by
  refine call79 _ ?_
  simp only [e79_eq]
  exact Ev.diag (L_sign l hne 4 0 (by omega) (by omega))

/-! ### One token -/
theorem C_one (l : List UInt8) (hne : l ≠ []) (hl : l.length ≤ 1000000) : Cal 47 [V.one (X.d (D.str (bx l)))] [] (RV (tokV (Lx.tok l))) := by
  obtain ⟨c, t, rfl⟩ : ∃ c t, l = c :: t := by cases l with | nil => exact absurd rfl hne | cons c t => exact ⟨c, t, rfl⟩
  have hp : (true && decide ((0 : Int) < Int.ofNat (bx (c :: t)).size)) = true := by rw [Bool.true_and]; exact decide_eq_true (by rw [bx_size]; simp only [List.length_cons, Int.ofNat_eq_natCast]; omega)
  have hp1 : (true && decide ((1 : Int) ≤ Int.ofNat (bx (c :: t)).size) && true && true) = true := by rw [Bool.true_and, Bool.and_true, Bool.and_true]; exact decide_eq_true (by rw [bx_size]; simp only [List.length_cons, Int.ofNat_eq_natCast]; omega)
  refine call47 _ ?_
  simp only [e47_eq, get_bx0]
  refine Ev.yes hp (v_oB (C_small c) ?_)
  unfold Lx.tok
  show Ev _ (RV (tokV (if sm c then _ else if dg c then _ else _)))
  by_cases h1 : sm c = true
  · rw [if_pos h1]
    have hn := takeWhile_len nm (c :: t)
    have hle : ((c :: t).takeWhile nm).length ≤ (c :: t).length := (List.takeWhile_sublist nm).length_le
    refine Ev.yes h1 (Ev.diag (L_word (c :: t) hl _ 0 (by omega) rfl _ ?_))
    have hq := fun (x2 : Int) (s3 : ByteArray) (x4 x5 x6 : Int) => Q_word (x2 := x2) (s3 := s3) (x4 := x4) (x5 := x5) (x6 := x6) (c :: t) ((c :: t).takeWhile nm).length hl hle (by rw [hn]; exact fun x hx => mem_takeWhile nm _ x hx) (by rw [hn, List.takeWhile_cons_of_pos (sm_nm h1)]; simp)
    rw [hn] at hq
    rw [List.drop_zero, Nat.zero_add]
    exact hq _ _ _ _ _
  · rw [if_neg h1]
    refine Ev.no (by simpa using h1) (Ev.yes hp (v_oB (C_digit c) ?_))
    by_cases h2 : dg c = true
    · rw [if_pos h2]
      have hn := takeWhile_len dg (c :: t)
      have hle : ((c :: t).takeWhile dg).length ≤ (c :: t).length := (List.takeWhile_sublist dg).length_le
      refine Ev.yes h2 (Ev.diag (L_digits (c :: t) hl _ 0 (by omega) rfl (by simp) _ ?_))
      have hq := fun (x3 : Int) (s4 : ByteArray) (x5 x6 x7 : Int) => Q_digits (x3 := x3) (s4 := s4) (x5 := x5) (x6 := x6) (x7 := x7) (c :: t) ((c :: t).takeWhile dg).length hle
      rw [List.drop_zero, Nat.zero_add]
      rw [hn] at hq ⊢
      exact hq _ _ _ _ _
    · rw [if_neg h2]
      refine Ev.no (by simpa using h2) ?_
      simp only [q47_8_eq]
      refine v_oS (C_sign (c :: t) (by simp)) ?_
      by_cases h3 : sgn (c :: t) = []
      · rw [if_pos h3, h3]
        refine Ev.no rfl ?_
        simp only [q47_9_eq]
        refine Ev.yes hp1 (Ev.of fun m k n => ?_)
        rw [ext_bx]
        rfl
      · rw [if_neg h3]
        refine Ev.yes ?_ (Ev.ret _)
        rw [bx_data, beqL_eq]
        simpa using h3
end
end Go.Proofs.Ytbmcafehpgimfaa.Ps
namespace Go.Proofs.Ytbmcafehpgimfaa.Ps
set_option linter.unusedVariables false
set_option linter.unusedSimpArgs false
open Go Go.RowKit Go.Proofs

/-- How many cells a block has. -/
def cellsIn (w : World) (b : Nat) : Nat := match w.heap[b]? with | some (.cells cs _ _) => cs.size | _ => 0
def g0 (w : World) : G := ⟨w, cellsIn w, fun _ => none, fun _ => none, fun _ => False⟩
theorem entry0 (w : World) : Entry (g0 w) [] where
  blk := fun i x h => by cases h
  out := fun i _ => rfl
  inj := fun i j B h => by cases h
  lt := fun i B h => by cases h
  fresh := fun b h => by
    show cellsIn w b = 0
    have h' : w.heap.size ≤ b := h
    unfold cellsIn
    rw [Array.getElem?_eq_none h']
  live := fun κ h => by cases h
  own := fun κ e s u h => by cases h
  dist := fun κ κ' e s u e' s' u' b h => by cases h
  used := fun κ e s u h => by cases h
  us := fun _ h => h.elim
theorem since0 (w : World) : Since w (g0 w) := ⟨Below.refl _ _, fun b h => by
  rcases h with ⟨i, h⟩ | ⟨κ, e, s, u, h, _⟩ <;> cases h⟩
abbrev sV (s : ByteArray) : V := V.one (X.d (D.str s))
theorem law_calls {w : World} (hs : Sane w) {f : FuncId} {args : List V} {vs : List Value} (hv : RepVs (g0 w) args vs) (h : Cal f args [] (RV (V.one (bX true)))) :
    Calls Try.prog f vs.toArray w fun e w' => e = .returned (.bool true) ∧ Below w.heap.size w w' := by
  obtain ⟨k, hk⟩ := h
  refine (((Ak_ok hs k) f args [] _ (hk k k k (Nat.le_refl _) (Nat.le_refl _) (Nat.le_refl _))) (g0 w) vs (since0 w) (entry0 w) hv).2.mono ?_
  rintro e w' ⟨g', rfl, ho⟩
  obtain ⟨v, rfl, hr⟩ := ho.ok rfl
  rw [hr.bool_eq]
  refine ⟨rfl, ho.step.os, ho.step.tape, ho.step.output, ho.step.size, fun b hb => (ho.step.keep b hb (fun hm => ?_)).1⟩
  rcases hm with ⟨i, h⟩ | ⟨κ, e, s, u, h, _⟩ <;> cases h
end Go.Proofs.Ytbmcafehpgimfaa.Ps
namespace Go.Proofs.Ytbmcafehpgimfaa.Ps
set_option linter.unusedVariables false
set_option linter.unusedSimpArgs false
open Go Go.RowKit Px Lx

def fltX (f : Flt) : List X := [iX f.e, sX f.text, iX f.line, iX f.col]
def fine : List X := [iX 0, sX [], iX 0, iX 0]
def tokOut (acc : List Tok) : Except Flt (List Tok) → V
  | .ok l => V.tup [V.one (X.d (D.list 5 (toks (acc ++ l)))), V.agg fine]
  | .error f => V.tup [V.one (X.d (D.list 5 [])), V.agg (fltX f)]
theorem toks_app (a : List Tok) (t : Tok) : toks (a ++ [t]) = toks a ++ [[D.int IntKind.i64 t.kind, D.str (bx t.text), D.int IntKind.i64 t.n, D.int IntKind.i64 t.line, D.int IntKind.i64 t.col]] := by
  unfold toks; rw [List.map_append]; rfl
theorem tok_bad {l : List UInt8} {e : Int} {w : List UInt8} (h : Lx.tok l = .bad e w) : e ≠ 0 := by
  unfold Lx.tok at h
  split at h
  · split at h
    · cases h; decide
    · split at h <;> cases h
  · split at h
    · split at h
      · cases h; decide
      · cases h
    · split at h
      · cases h; decide
      · cases h
def push (acc : List Tok) (t : Tok) (r : Except Flt (List Tok)) : V := tokOut (acc ++ [t]) r
theorem tokOut_cons (acc : List Tok) (t : Tok) (r : Except Flt (List Tok)) : tokOut acc (match r with | .error f => .error f | .ok l => .ok (t :: l)) = tokOut (acc ++ [t]) r := by
  cases r with
  | error f => rfl
  | ok l => unfold tokOut; simp only [List.append_assoc, List.singleton_append]
theorem byte_no {c : UInt8} {n : Nat} (h : ¬ c.toNat = n) : (Int.ofNat c.toNat == Int.ofNat n) = false := by
  rw [beq_eq_false_iff_ne]
  intro e
  exact h (Int.ofNat.inj e)
theorem byte_yes {c : UInt8} {n : Nat} (h : c.toNat = n) : (Int.ofNat c.toNat == Int.ofNat n) = true := by rw [h]; simp
theorem add_wrap (a b : Nat) (h : a + b ≤ 2000000) : IntKind.wrap .i64 (Int.ofNat a + Int.ofNat b) = Int.ofNat (a + b) := by
  rw [wrap_in _ (by simp only [Int.ofNat_eq_natCast]; omega) (by simp only [Int.ofNat_eq_natCast]; omega)]
  simp
theorem col_wrap (i b : Nat) (h : b ≤ i) (h2 : i ≤ 1000000) : IntKind.wrap .i64 (IntKind.wrap .i64 (Int.ofNat i - Int.ofNat b) + 1) = Int.ofNat i - Int.ofNat b + 1 := by
  rw [wrap_in (Int.ofNat i - Int.ofNat b) (by simp only [Int.ofNat_eq_natCast]; omega) (by simp only [Int.ofNat_eq_natCast]; omega), wrap_in _ (by simp only [Int.ofNat_eq_natCast]; omega) (by simp only [Int.ofNat_eq_natCast]; omega)]
theorem L_comment_v1 (l : List UInt8) (hl : l.length ≤ 1000000) (acc : List Tok) (x1 x2 x4 : Int) (s5 : ByteArray) (x6 x7 : Int) (Γ : Bool → SemL) (m0 n0 : Nat) (o : Option Out) : ∀ (d i : Nat), i ≤ l.length → l.length - i = d →
    l21_0_v1 m0 Γ n0 (bx l) (toks acc) x1 x2 (Int.ofNat (i + ((l.drop i).takeWhile nnl).length)) x4 s5 x6 x7 = o → ∀ m, d < m → l21_1_v1 m Γ m0 n0 (bx l) (toks acc) x1 x2 (Int.ofNat i) x4 s5 x6 x7 = o := by
  intro d
  induction d with
  | zero =>
    intro i hi hd h m hm
    rw [List.drop_eq_nil_of_le (by omega)] at h
    obtain ⟨m, rfl⟩ : ∃ m', m = m' + 1 := ⟨m - 1, by omega⟩
    rw [l21_1_v1_eq, lt_no i _ (by rw [bx_size]; omega), cond_false, q21_3_v1_eq]
    exact h
  | succ d ih =>
    intro i hi hd h m hm
    obtain ⟨m, rfl⟩ : ∃ m', m = m' + 1 := ⟨m - 1, by omega⟩
    rcases drop_cases l i hi with ⟨e, _⟩ | ⟨hlt, c, t, hc, ht⟩
    · omega
    · have hb := get_bx l i c t hc
      rw [hc] at h
      rw [l21_1_v1_eq, lt_yes i _ (by rw [bx_size]; exact hlt), cond_true, show decide ((0 : Int) ≤ Int.ofNat i) = true from decide_eq_true (Int.natCast_nonneg i), Bool.true_and, cond_true, hb]
      by_cases hn : c.toNat = 10
      · rw [List.takeWhile_cons_of_neg (by simp [nnl, hn])] at h
        rw [bne, show (Int.ofNat c.toNat == 10) = true from byte_yes (n := 10) hn, Bool.not_true, cond_false, q21_3_v1_eq]
        exact h
      · rw [List.takeWhile_cons_of_pos (by simp [nnl, hn])] at h
        rw [bne, show (Int.ofNat c.toNat == 10) = false from byte_no (n := 10) hn, Bool.not_false, cond_true, q21_2_v1_eq, wrap_up i (by omega)]
        exact ih (i + 1) (by omega) (by omega) (by rw [ht]; simpa [Nat.add_assoc, Nat.add_comm 1] using h) m (by omega)
theorem L_scan_v1 (l : List UInt8) (hl : l.length ≤ 1000000) (x4 : Int) (s5 : ByteArray) (x6 x7 : Int) : ∀ (d i : Nat), l.length - i < d → i ≤ l.length → ∀ (acc : List Tok) (line : Nat) (b : Nat), b ≤ i → line ≤ i + 1 → acc.length ≤ i →
    Ev (fun m k n => l21_0_v1 m (Ak k) n (bx l) (toks acc) (Int.ofNat line) (Int.ofNat b) (Int.ofNat i) x4 s5 x6 x7) (RV (tokOut acc (scan (l.drop i) (Int.ofNat line) (Int.ofNat i - Int.ofNat b + 1)))) := by
  intro d
  induction d with
  | zero => intro i h; omega
  | succ d ih =>
    intro i hd hi acc line b hb hline ha
    refine Ev.step ?_
    simp only [l21_0_v1_eq]
    rcases drop_cases l i hi with ⟨e, hnil⟩ | ⟨hlt, c, t, hc, ht⟩
    · subst e
      rw [hnil, scan]
      refine Ev.no (lt_no _ _ (by rw [bx_size]; omega)) ?_
      simp only [q21_6_v1_eq, bx_size, col_wrap l.length b hb hl]
      refine Ev.yes (by rw [toks_len]; exact Nat.ble_eq_true_of_le (by show (acc.length + 1) * 49 ≤ _; omega)) (Ev.of fun m k n => ?_)
      show some _ = some (RV (V.tup [V.one (X.d (D.list 5 (toks (acc ++ [_])))), _]))
      rw [toks_app]
      rfl
    · have hget := get_bx l i c t hc
      refine Ev.yes (lt_yes i _ (by rw [bx_size]; exact hlt)) ?_
      simp only [q21_1_v1_eq, hget, wrap_up i (show i < 9223372036854775807 by omega), wrap_up line (show line < 9223372036854775807 by omega)]
      refine Ev.yes (in_range i _ (by rw [bx_size]; exact hlt)) ?_
      rw [hc, scan]
      have next : Ev (fun m k n => l21_0_v1 m (Ak k) n (bx l) (toks acc) (Int.ofNat line) (Int.ofNat b) (Int.ofNat (i + 1)) x4 s5 x6 x7) (RV (tokOut acc (scan t (Int.ofNat line) (Int.ofNat i - Int.ofNat b + 1 + 1)))) := by
        have := ih (i + 1) (by omega) (by omega) acc line b (by omega) (by omega) (by omega)
        rw [ht] at this
        have e1 : Int.ofNat (i + 1) - Int.ofNat b + 1 = Int.ofNat i - Int.ofNat b + 1 + 1 := by simp only [Int.ofNat_eq_natCast]; omega
        rw [e1] at this
        exact this
      by_cases h10 : c.toNat = 10
      · rw [if_pos h10]
        refine Ev.yes (byte_yes (n := 10) h10) ?_
        have := ih (i + 1) (by omega) (by omega) acc (line + 1) (i + 1) (by omega) (by omega) (by omega)
        rw [ht, Int.sub_self] at this
        exact this
      rw [if_neg h10]
      refine Ev.no (byte_no (n := 10) h10) ?_
      by_cases h32 : c.toNat = 32
      · rw [if_pos (by simp [ws, h32])]
        exact Ev.yes (byte_yes (n := 32) h32) next
      refine Ev.no (byte_no (n := 32) h32) ?_
      by_cases h9 : c.toNat = 9
      · rw [if_pos (by simp [ws, h9])]
        exact Ev.yes (byte_yes (n := 9) h9) next
      refine Ev.no (byte_no (n := 9) h9) ?_
      by_cases h13 : c.toNat = 13
      · rw [if_pos (by simp [ws, h13])]
        exact Ev.yes (byte_yes (n := 13) h13) next
      refine Ev.no (byte_no (n := 13) h13) ?_
      rw [if_neg (by simp [ws, h32, h9, h13])]
      by_cases h35 : c.toNat = 35
      · rw [if_pos h35]
        refine Ev.yes (byte_yes (n := 35) h35) ?_
        have hle : (t.takeWhile nnl).length ≤ t.length := (List.takeWhile_sublist nnl).length_le
        have htl : t.length = l.length - i - 1 := by
          have := congrArg List.length hc
          rw [List.length_drop, List.length_cons] at this
          omega
        have hdw : l.drop (i + 1 + (t.takeWhile nnl).length) = t.dropWhile nnl := by
          rw [← List.drop_drop, ht]
          have := List.takeWhile_append_dropWhile (p := nnl) (l := t)
          conv => lhs; rw [← this]
          rw [List.drop_append_of_le_length (by rw [this]; exact Nat.le_refl _) |>.trans (by rw [this])] <;> simp
        have := ih (i + 1 + (t.takeWhile nnl).length) (by omega) (by omega) acc line b (by omega) (by omega) (by omega)
        rw [hdw] at this
        have e1 : Int.ofNat (i + 1 + (t.takeWhile nnl).length) - Int.ofNat b + 1 = Int.ofNat i - Int.ofNat b + 1 + 1 + ((t.takeWhile nnl).length : Int) := by simp only [Int.ofNat_eq_natCast]; omega
        rw [e1] at this
        obtain ⟨K, hK⟩ := this
        refine ⟨K + l.length + 1, fun m k n h1 h2 h3 => ?_⟩
        refine L_comment_v1 l hl acc _ _ _ _ _ _ (Ak k) m n _ (l.length - i) i hi rfl ?_ m (by omega)
        rw [hc, List.takeWhile_cons_of_pos (by simp [nnl, h35]), List.length_cons]
        rw [show i + ((t.takeWhile nnl).length + 1) = i + 1 + (t.takeWhile nnl).length by omega]
        exact hK m k n (by omega) (by omega) (by omega)
      rw [if_neg h35]
      refine Ev.no (byte_no (n := 35) h35) ?_
      have hext : (bx l).extract (Int.toNat (Int.ofNat i)) (Int.toNat (Int.ofNat l.length)) = bx (c :: t) := by
        rw [ext_bx, ← hc]
        show bx ((l.take l.length).drop i) = _
        rw [List.take_length]
      simp only [q21_4_v1_eq, bx_size, hext]
      refine Ev.yes (by simp only [Int.ofNat_eq_natCast, Bool.and_eq_true, decide_eq_true_eq]; omega) ?_
      have hone := C_one (c :: t) (by simp) (by rw [← hc, List.length_drop]; omega)
      cases htok : Lx.tok (c :: t) with
      | bad e w =>
        rw [htok] at hone
        refine v_t2a5ISIIIoI hone (Ev.yes (by simpa using tok_bad htok) (Ev.of fun m k n => ?_))
        rw [col_wrap i b hb (by omega)]
        rfl
      | ok κ w n =>
        rw [htok] at hone
        refine v_t2a5ISIIIoI hone (Ev.no rfl ?_)
        have hw := tok_take htok
        have hwl : 1 ≤ w.length := by
          cases w with
          | nil => exact absurd rfl hw.2
          | cons => simp
        have hwle : w.length ≤ (c :: t).length := by
          have := congrArg List.length hw.1
          rw [List.length_take] at this
          omega
        have htl : (c :: t).length = l.length - i := by rw [← hc, List.length_drop]
        have hdr : l.drop (i + w.length) = t.drop (w.length - 1) := by
          rw [← List.drop_drop, hc]
          cases w with
          | nil => exact absurd rfl hw.2
          | cons a w' => rfl
        simp only [q21_5_v1_eq, bx_size, add_wrap i w.length (by omega), col_wrap i b hb (by omega : i ≤ 1000000)]
        show Ev _ (RV (tokOut acc (match scan (t.drop (w.length - 1)) (Int.ofNat line) (Int.ofNat i - Int.ofNat b + 1 + (w.length : Int)) with | .error f => .error f | .ok l => .ok (⟨κ, w, n, Int.ofNat line, Int.ofNat i - Int.ofNat b + 1⟩ :: l))))
        rw [tokOut_cons]
        have e1 : Int.ofNat (i + w.length) - Int.ofNat b + 1 = Int.ofNat i - Int.ofNat b + 1 + (w.length : Int) := by simp only [Int.ofNat_eq_natCast]; omega
        have := ih (i + w.length) (by omega) (by omega) (acc ++ [⟨κ, w, n, Int.ofNat line, Int.ofNat i - Int.ofNat b + 1⟩]) line b (by omega) (by omega) (by rw [List.length_append, List.length_singleton]; omega)
        rw [hdr, e1, toks_app] at this
        exact Ev.yes (by rw [toks_len]; exact Nat.ble_eq_true_of_le (by show (acc.length + 1) * 49 ≤ _; omega)) this
theorem L_comment (l : List UInt8) (hl : l.length ≤ 1000000) (x1 x2 x4 : Int) (s5 : ByteArray) (x6 x7 : Int) (Γ : Bool → SemL) (m0 n0 : Nat) (o : Option Out) : ∀ (d i : Nat), i ≤ l.length → l.length - i = d →
    l21_0 m0 Γ n0 (bx l) x1 x2 (Int.ofNat (i + ((l.drop i).takeWhile nnl).length)) x4 s5 x6 x7 = o → ∀ m, d < m → l21_1 m Γ m0 n0 (bx l) x1 x2 (Int.ofNat i) x4 s5 x6 x7 = o := by
  intro d
  induction d with
  | zero =>
    intro i hi hd h m hm
    rw [List.drop_eq_nil_of_le (by omega)] at h
    obtain ⟨m, rfl⟩ : ∃ m', m = m' + 1 := ⟨m - 1, by omega⟩
    rw [l21_1_eq, lt_no i _ (by rw [bx_size]; omega), cond_false, q21_3_eq]
    exact h
  | succ d ih =>
    intro i hi hd h m hm
    obtain ⟨m, rfl⟩ : ∃ m', m = m' + 1 := ⟨m - 1, by omega⟩
    rcases drop_cases l i hi with ⟨e, _⟩ | ⟨hlt, c, t, hc, ht⟩
    · omega
    · have hb := get_bx l i c t hc
      rw [hc] at h
      rw [l21_1_eq, lt_yes i _ (by rw [bx_size]; exact hlt), cond_true, show decide ((0 : Int) ≤ Int.ofNat i) = true from decide_eq_true (Int.natCast_nonneg i), Bool.true_and, cond_true, hb]
      by_cases hn : c.toNat = 10
      · rw [List.takeWhile_cons_of_neg (by simp [nnl, hn])] at h
        rw [bne, show (Int.ofNat c.toNat == 10) = true from byte_yes (n := 10) hn, Bool.not_true, cond_false, q21_3_eq]
        exact h
      · rw [List.takeWhile_cons_of_pos (by simp [nnl, hn])] at h
        rw [bne, show (Int.ofNat c.toNat == 10) = false from byte_no (n := 10) hn, Bool.not_false, cond_true, q21_2_eq, wrap_up i (by omega)]
        exact ih (i + 1) (by omega) (by omega) (by rw [ht]; simpa [Nat.add_assoc, Nat.add_comm 1] using h) m (by omega)
theorem L_scan (l : List UInt8) (hl : l.length ≤ 1000000) (x4 : Int) (s5 : ByteArray) (x6 x7 : Int) : ∀ (d i : Nat), l.length - i < d → i ≤ l.length → ∀ (line : Nat) (b : Nat), b ≤ i → line ≤ i + 1 → 
    Ev (fun m k n => l21_0 m (Ak k) n (bx l) (Int.ofNat line) (Int.ofNat b) (Int.ofNat i) x4 s5 x6 x7) (RV (tokOut [] (scan (l.drop i) (Int.ofNat line) (Int.ofNat i - Int.ofNat b + 1)))) := by
  intro d
  induction d with
  | zero => intro i h; omega
  | succ d ih =>
    intro i hd hi line b hb hline
    refine Ev.step ?_
    simp only [l21_0_eq]
    rcases drop_cases l i hi with ⟨e, hnil⟩ | ⟨hlt, c, t, hc, ht⟩
    · subst e
      rw [hnil, scan]
      refine Ev.no (lt_no _ _ (by rw [bx_size]; omega)) ?_
      simp only [q21_6_eq, bx_size, col_wrap l.length b hb hl]
      exact Ev.of fun m k n => rfl
    · have hget := get_bx l i c t hc
      refine Ev.yes (lt_yes i _ (by rw [bx_size]; exact hlt)) ?_
      simp only [q21_1_eq, hget, wrap_up i (show i < 9223372036854775807 by omega), wrap_up line (show line < 9223372036854775807 by omega)]
      refine Ev.yes (in_range i _ (by rw [bx_size]; exact hlt)) ?_
      rw [hc, scan]
      have next : Ev (fun m k n => l21_0 m (Ak k) n (bx l) (Int.ofNat line) (Int.ofNat b) (Int.ofNat (i + 1)) x4 s5 x6 x7) (RV (tokOut [] (scan t (Int.ofNat line) (Int.ofNat i - Int.ofNat b + 1 + 1)))) := by
        have := ih (i + 1) (by omega) (by omega) line b (by omega) (by omega)
        rw [ht] at this
        have e1 : Int.ofNat (i + 1) - Int.ofNat b + 1 = Int.ofNat i - Int.ofNat b + 1 + 1 := by simp only [Int.ofNat_eq_natCast]; omega
        rw [e1] at this
        exact this
      by_cases h10 : c.toNat = 10
      · rw [if_pos h10]
        refine Ev.yes (byte_yes (n := 10) h10) ?_
        have := ih (i + 1) (by omega) (by omega) (line + 1) (i + 1) (by omega) (by omega)
        rw [ht, Int.sub_self] at this
        exact this
      rw [if_neg h10]
      refine Ev.no (byte_no (n := 10) h10) ?_
      by_cases h32 : c.toNat = 32
      · rw [if_pos (by simp [ws, h32])]
        exact Ev.yes (byte_yes (n := 32) h32) next
      refine Ev.no (byte_no (n := 32) h32) ?_
      by_cases h9 : c.toNat = 9
      · rw [if_pos (by simp [ws, h9])]
        exact Ev.yes (byte_yes (n := 9) h9) next
      refine Ev.no (byte_no (n := 9) h9) ?_
      by_cases h13 : c.toNat = 13
      · rw [if_pos (by simp [ws, h13])]
        exact Ev.yes (byte_yes (n := 13) h13) next
      refine Ev.no (byte_no (n := 13) h13) ?_
      rw [if_neg (by simp [ws, h32, h9, h13])]
      by_cases h35 : c.toNat = 35
      · rw [if_pos h35]
        refine Ev.yes (byte_yes (n := 35) h35) ?_
        have hle : (t.takeWhile nnl).length ≤ t.length := (List.takeWhile_sublist nnl).length_le
        have htl : t.length = l.length - i - 1 := by
          have := congrArg List.length hc
          rw [List.length_drop, List.length_cons] at this
          omega
        have hdw : l.drop (i + 1 + (t.takeWhile nnl).length) = t.dropWhile nnl := by
          rw [← List.drop_drop, ht]
          have := List.takeWhile_append_dropWhile (p := nnl) (l := t)
          conv => lhs; rw [← this]
          rw [List.drop_append_of_le_length (by rw [this]; exact Nat.le_refl _) |>.trans (by rw [this])] <;> simp
        have := ih (i + 1 + (t.takeWhile nnl).length) (by omega) (by omega) line b (by omega) (by omega)
        rw [hdw] at this
        have e1 : Int.ofNat (i + 1 + (t.takeWhile nnl).length) - Int.ofNat b + 1 = Int.ofNat i - Int.ofNat b + 1 + 1 + ((t.takeWhile nnl).length : Int) := by simp only [Int.ofNat_eq_natCast]; omega
        rw [e1] at this
        obtain ⟨K, hK⟩ := this
        refine ⟨K + l.length + 1, fun m k n h1 h2 h3 => ?_⟩
        refine L_comment l hl _ _ _ _ _ _ (Ak k) m n _ (l.length - i) i hi rfl ?_ m (by omega)
        rw [hc, List.takeWhile_cons_of_pos (by simp [nnl, h35]), List.length_cons]
        rw [show i + ((t.takeWhile nnl).length + 1) = i + 1 + (t.takeWhile nnl).length by omega]
        exact hK m k n (by omega) (by omega) (by omega)
      rw [if_neg h35]
      refine Ev.no (byte_no (n := 35) h35) ?_
      have hext : (bx l).extract (Int.toNat (Int.ofNat i)) (Int.toNat (Int.ofNat l.length)) = bx (c :: t) := by
        rw [ext_bx, ← hc]
        show bx ((l.take l.length).drop i) = _
        rw [List.take_length]
      simp only [q21_4_eq, bx_size, hext]
      refine Ev.yes (by simp only [Int.ofNat_eq_natCast, Bool.and_eq_true, decide_eq_true_eq]; omega) ?_
      have hone := C_one (c :: t) (by simp) (by rw [← hc, List.length_drop]; omega)
      cases htok : Lx.tok (c :: t) with
      | bad e w =>
        rw [htok] at hone
        refine v_t2a5ISIIIoI hone (Ev.yes (by simpa using tok_bad htok) (Ev.of fun m k n => ?_))
        rw [col_wrap i b hb (by omega)]
        rfl
      | ok κ w n =>
        rw [htok] at hone
        refine v_t2a5ISIIIoI hone (Ev.no rfl ?_)
        have hw := tok_take htok
        have hwl : 1 ≤ w.length := by
          cases w with
          | nil => exact absurd rfl hw.2
          | cons => simp
        have hwle : w.length ≤ (c :: t).length := by
          have := congrArg List.length hw.1
          rw [List.length_take] at this
          omega
        have htl : (c :: t).length = l.length - i := by rw [← hc, List.length_drop]
        have hdr : l.drop (i + w.length) = t.drop (w.length - 1) := by
          rw [← List.drop_drop, hc]
          cases w with
          | nil => exact absurd rfl hw.2
          | cons a w' => rfl
        simp only [q21_5_eq, bx_size, add_wrap i w.length (by omega), col_wrap i b hb (by omega : i ≤ 1000000)]
        show Ev _ (RV (tokOut [] (match scan (t.drop (w.length - 1)) (Int.ofNat line) (Int.ofNat i - Int.ofNat b + 1 + (w.length : Int)) with | .error f => .error f | .ok l => .ok (⟨κ, w, n, Int.ofNat line, Int.ofNat i - Int.ofNat b + 1⟩ :: l))))
        rw [tokOut_cons]
        have e1 : Int.ofNat (i + w.length) - Int.ofNat b + 1 = Int.ofNat i - Int.ofNat b + 1 + (w.length : Int) := by simp only [Int.ofNat_eq_natCast]; omega
        have := L_scan_v1 l hl x4 s5 x6 x7 (l.length + 1) (i + w.length) (by omega) (by omega) [⟨κ, w, n, Int.ofNat line, Int.ofNat i - Int.ofNat b + 1⟩] line b (by omega) (by omega) (by simp only [List.length_singleton]; omega)
        rw [hdr, e1] at this
        exact this
theorem C_tokens (l : List UInt8) : Cal 21 [V.one (X.d (D.str (bx l)))] [] (RV (if 20000 < l.length then V.tup [V.one (X.d (D.list 5 [])), V.agg [iX 2, sX [], iX 0, iX 0]] else tokOut [] (scan l 1 1))) := by
  refine call21 _ ?_
  simp only [e21_eq, bx_size]
  by_cases h : 20000 < l.length
  · rw [if_pos h]
    exact Ev.yes (decide_eq_true (by show (20000 : Int) < Int.ofNat l.length; simp only [Int.ofNat_eq_natCast]; omega)) (Ev.ret _)
  · rw [if_neg h]
    refine Ev.no (decide_eq_false (by show ¬ (20000 : Int) < Int.ofNat l.length; simp only [Int.ofNat_eq_natCast]; omega)) ?_
    simp only [q21_0_eq]
    have := fun (x4 : Int) (s5 : ByteArray) (x6 x7 : Int) => L_scan l (by omega) x4 s5 x6 x7 (l.length + 1) 0 (by omega) (by omega) 1 0 (by omega) (by omega)
    exact Ev.diag (this _ _ _ _)
end Go.Proofs.Ytbmcafehpgimfaa.Ps
namespace Go.Proofs.Ytbmcafehpgimfaa.Ps
set_option linter.unusedVariables false
set_option linter.unusedSimpArgs false
open Go Go.RowKit Px
open Lx (Tok)

abbrev RD : List Lf := [Lf.lst 5, Lf.int IntKind.i64]
abbrev rd (l : List Tok) (i : Nat) : List X := [X.d (D.list 5 (toks l)), X.d (D.int IntKind.i64 (Int.ofNat i))]
abbrev rds (l : List Tok) (i : Nat) : List (List Lf × List X) := [(RD, rd l i)]
/-- The fault that a token makes. -/
def flt (t : Tok) : D := D.iface 30 [D.int IntKind.i64 11, D.str (bx t.text), D.int IntKind.i64 t.line, D.int IntKind.i64 t.col]
def outOf {α : Type} (l : List Tok) (enc : α → V) : Rs α → Out
  | .ok a j => ⟨true, enc a, D.junk, [rd l j], 0⟩
  | .no j => ⟨false, V.junk, flt (tk l j), [rd l j], 0⟩
  | .out => ⟨true, V.junk, D.junk, [], 0⟩
/-- F does what the reading r tells. -/
def Sim {α : Type} (l : List Tok) (enc : α → V) (F : Nat → Nat → Nat → Option Out) (r : Rs α) : Prop := r ≠ .out → Ev F (outOf l enc r)
theorem Sim.ret {α : Type} {l : List Tok} {enc : α → V} {F : Nat → Nat → Nat → Option Out} {P : (q : NT) → Nat → Rs (Ret q)} {a : α} {i : Nat} (h : ∀ m k n, F m k n = some ⟨true, enc a, D.junk, [rd l i], 0⟩) : Sim l enc F (run P l (.ret a) i) := fun _ => Ev.of h
theorem Sim.eq {α : Type} {l : List Tok} {enc : α → V} {F G : Nat → Nat → Nat → Option Out} {r : Rs α} (h : Sim l enc G r) (e : ∀ m k n, F m k n = G m k n) : Sim l enc F r := fun hr => (h hr).eq e
/-- The token that comes. -/
theorem C_token {l : List Tok} {i : Nat} (hi : i < l.length) : Cal 49 [V.one (X.ptr 0 0)] (rds l i) ⟨true, kV (tk l i), D.junk, [rd l i], 0⟩ := by
  refine call49 _ _ (Ev.of fun m k n => ?_)
  rw [e49_eq, toks_len, in_range i _ hi, cond_true, tn, toks_at l i hi]
  rfl
theorem C_is {l : List Tok} {i : Nat} (hi : i < l.length) (s : List UInt8) : Cal 80 [V.one (X.ptr 0 0), V.one (X.d (D.str (bx s)))] (rds l i) ⟨true, V.one (X.d (D.bool (isT s (tk l i)))), D.junk, [rd l i], 0⟩ := by
  refine call80 _ _ _ ?_
  simp only [e80_eq]
  refine v_a5ISIII_L5I (C_token hi) ?_
  refine Ev.of fun m k n => ?_
  unfold isT
  rw [bx_data, bx_data, beqL_eq]
  cases h4 : (tk l i).kind == 4
  · cases h2 : (tk l i).kind == 2
    · rfl
    · rfl
  · rfl
theorem C_fail {l : List Tok} {i : Nat} (hi : i < l.length) : Cal 50 [V.one (X.ptr 0 0)] (rds l i) ⟨false, V.junk, flt (tk l i), [rd l i], 0⟩ := by
  refine call50 _ _ ?_
  simp only [e50_eq]
  exact v_a5ISIII_L5I (C_token hi) (Ev.of fun m k n => rfl)
theorem up {l : List Tok} (hl : l.length ≤ 1000000) {i : Nat} (hi : i < l.length) : IntKind.wrap .i64 (Int.ofNat i + 1) = Int.ofNat (i + 1) := wrap_up i (by omega)
theorem C_take {l : List Tok} (hl : l.length ≤ 1000000) {i : Nat} (hi : i < l.length) (s : List UInt8) : Cal 51 [V.one (X.ptr 0 0), V.one (X.d (D.str (bx s)))] (rds l i)
    ⟨true, V.one (X.d (D.bool (isT s (tk l i)))), D.junk, [rd l (bif isT s (tk l i) then i + 1 else i)], 0⟩ := by
  refine call51 _ _ _ ?_
  simp only [e51_eq]
  refine v_oB_L5I (C_is hi s) ?_
  refine Ev.of fun m k n => ?_
  cases h : isT s (tk l i)
  · rw [cond_false, q51_0_eq]; rfl
  · rw [cond_true, up hl hi]; rfl
theorem C_want_yes {l : List Tok} (hl : l.length ≤ 1000000) {i : Nat} (hi : i < l.length) {s : List UInt8} (h : isT s (tk l i) = true) : Cal 54 [V.one (X.ptr 0 0), V.one (X.d (D.str (bx s)))] (rds l i)
    ⟨true, V.tup [], D.junk, [rd l (i + 1)], 0⟩ := by
  refine call54 _ _ _ ?_
  simp only [e54_eq]
  have := C_take hl hi s
  rw [h, cond_true] at this
  exact v_oB_L5I this (Ev.of fun m k n => rfl)
theorem C_want_no {l : List Tok} (hl : l.length ≤ 1000000) {i : Nat} (hi : i < l.length) {s : List UInt8} (h : isT s (tk l i) = false) : Cal 54 [V.one (X.ptr 0 0), V.one (X.d (D.str (bx s)))] (rds l i)
    ⟨false, V.junk, flt (tk l i), [rd l i], 0⟩ := by
  refine call54 _ _ _ ?_
  simp only [e54_eq]
  have := C_take hl hi s
  rw [h, cond_false] at this
  refine v_oB_L5I this (Ev.yes rfl ?_)
  exact u_n_L5I (C_fail hi) (Ev.of fun m k n => rfl)
theorem C_kind_yes {l : List Tok} (hl : l.length ≤ 1000000) {i : Nat} (hi : i < l.length) {κ : Int} (h : ((tk l i).kind == κ) = true) : Cal 53 [V.one (X.ptr 0 0), V.one (X.d (D.int IntKind.i64 κ))] (rds l i)
    ⟨true, kV (tk l i), D.junk, [rd l (i + 1)], 0⟩ := by
  refine call53 _ _ _ ?_
  simp only [e53_eq]
  refine v_a5ISIII_L5I (C_token hi) (Ev.of fun m k n => ?_)
  rw [show ((tk l i).kind != κ) = false by rw [bne, h]; rfl, cond_false, q53_0_eq, up hl hi]
  rfl
theorem C_kind_no {l : List Tok} {i : Nat} (hi : i < l.length) {κ : Int} (h : ((tk l i).kind == κ) = false) : Cal 53 [V.one (X.ptr 0 0), V.one (X.d (D.int IntKind.i64 κ))] (rds l i)
    ⟨false, V.junk, flt (tk l i), [rd l i], 0⟩ := by
  refine call53 _ _ _ ?_
  simp only [e53_eq]
  refine v_a5ISIII_L5I (C_token hi) ?_
  simp only [show ((tk l i).kind != κ) = true by rw [bne, h]; rfl, cond_true]
  exact u_n_L5I (C_fail hi) (Ev.of fun m k n => rfl)

/-! ### The steps -/
section
variable {α : Type} {l : List Tok} {enc : α → V} {P : (q : NT) → Nat → Rs (Ret q)}
/-- A panic is handed on. -/
abbrev PanOn (Q : Nat → Nat → Nat → D → List (List D) → Int → Option Out) : Prop := ∀ m k n d w i, Q m k n d w i = some ⟨false, V.junk, d, [[X.d (D.list 5 w), X.d (D.int IntKind.i64 i)]], 0⟩
theorem S_token {i : Nat} (hi : i < l.length) {K : Nat → Nat → Nat → Int → ByteArray → Int → Int → Int → List (List D) → Int → Option Out} {Q : Nat → Nat → Nat → D → List (List D) → Int → Option Out} {f : Tok → Pm α}
    (h : Sim l enc (fun m k n => K m k n (tk l i).kind (bx (tk l i).text) (tk l i).n (tk l i).line (tk l i).col (toks l) (Int.ofNat i)) (run P l (f (tk l i)) i)) :
    Sim l enc (fun m k n => r_a5ISIII_L5I (Ak k false 49 [V.one (X.ptr 0 0)] (rds l i)) (K m k n) (Q m k n)) (run P l (.look f) i) := fun hr => v_a5ISIII_L5I (C_token hi) (h hr)
theorem S_take (hl : l.length ≤ 1000000) {i : Nat} (hi : i < l.length) (s : List UInt8) {K : Nat → Nat → Nat → Bool → List (List D) → Int → Option Out} {Q : Nat → Nat → Nat → D → List (List D) → Int → Option Out} {y n : Pm α}
    (hy : isT s (tk l i) = true → Sim l enc (fun m k n => K m k n true (toks l) (Int.ofNat (i + 1))) (run P l y (i + 1)))
    (hn : isT s (tk l i) = false → Sim l enc (fun m k n => K m k n false (toks l) (Int.ofNat i)) (run P l n i)) :
    Sim l enc (fun m k n => r_oB_L5I (Ak k false 51 [V.one (X.ptr 0 0), V.one (X.d (D.str (bx s)))] (rds l i)) (K m k n) (Q m k n)) (run P l (Pm.take s y n) i) := by
  have hc := C_take hl hi s
  unfold run
  cases h : isT s (tk l i) with
  | true => rw [h] at hc; exact fun hr => v_oB_L5I hc (hy h hr)
  | false => rw [h] at hc; exact fun hr => v_oB_L5I hc (hn h hr)
theorem S_want (hl : l.length ≤ 1000000) {i : Nat} (hi : i < l.length) (s : List UInt8) {K : Nat → Nat → Nat → List (List D) → Int → Option Out} {Q : Nat → Nat → Nat → D → List (List D) → Int → Option Out} {y : Pm α} (hp : PanOn Q)
    (hy : isT s (tk l i) = true → Sim l enc (fun m k n => K m k n (toks l) (Int.ofNat (i + 1))) (run P l y (i + 1))) :
    Sim l enc (fun m k n => r_n_L5I (Ak k false 54 [V.one (X.ptr 0 0), V.one (X.d (D.str (bx s)))] (rds l i)) (K m k n) (Q m k n)) (run P l (Pm.want s y) i) := by
  unfold run
  cases h : isT s (tk l i) with
  | true => exact fun hr => v_n_L5I (C_want_yes hl hi h) (hy h hr)
  | false => exact fun hr => u_n_L5I (C_want_no hl hi h) (Ev.of fun m k n => hp m k n _ _ _)
theorem S_kind (hl : l.length ≤ 1000000) {i : Nat} (hi : i < l.length) (κ : Int) {K : Nat → Nat → Nat → Int → ByteArray → Int → Int → Int → List (List D) → Int → Option Out} {Q : Nat → Nat → Nat → D → List (List D) → Int → Option Out} {f : Tok → Pm α} (hp : PanOn Q)
    (hy : (tk l i).kind = κ → Sim l enc (fun m k n => K m k n (tk l i).kind (bx (tk l i).text) (tk l i).n (tk l i).line (tk l i).col (toks l) (Int.ofNat (i + 1))) (run P l (f (tk l i)) (i + 1))) :
    Sim l enc (fun m k n => r_a5ISIII_L5I (Ak k false 53 [V.one (X.ptr 0 0), V.one (X.d (D.int IntKind.i64 κ))] (rds l i)) (K m k n) (Q m k n)) (run P l (Pm.kind κ f) i) := by
  unfold run
  cases h : (tk l i).kind == κ with
  | true => exact fun hr => v_a5ISIII_L5I (C_kind_yes hl hi h) (hy (by simpa using h) hr)
  | false => exact fun hr => u_a5ISIII_L5I (C_kind_no hi h) (Ev.of fun m k n => hp m k n _ _ _)
end
end Go.Proofs.Ytbmcafehpgimfaa.Ps
namespace Go.Proofs.Ytbmcafehpgimfaa.Ps
set_option linter.unusedVariables false
set_option linter.unusedSimpArgs false
open Go Go.RowKit Px
open Lx (Tok)

theorem Sim.step {α : Type} {l : List Tok} {enc : α → V} {F : Nat → Nat → Nat → Option Out} {r : Rs α} (h : Sim l enc (fun m k n => F (m + 1) k n) r) : Sim l enc F r := fun hr => (h hr).step
theorem Sim.diag {α : Type} {l : List Tok} {enc : α → V} {F : Nat → Nat → Nat → Option Out} {r : Rs α} (h : Sim l enc F r) : Sim l enc (fun m k n => F n k n) r := fun hr => (h hr).diag
theorem Sim.yes {α : Type} {l : List Tok} {enc : α → V} {F G : Nat → Nat → Nat → Option Out} {r : Rs α} {c : Bool} (hc : c = true) (h : Sim l enc F r) : Sim l enc (fun m k n => bif c then F m k n else G m k n) r := fun hr => (h hr).yes hc
theorem Sim.no {α : Type} {l : List Tok} {enc : α → V} {F G : Nat → Nat → Nat → Option Out} {r : Rs α} {c : Bool} (hc : c = false) (h : Sim l enc G r) : Sim l enc (fun m k n => bif c then F m k n else G m k n) r := fun hr => (h hr).no hc
theorem Sim.enc {α β : Type} {l : List Tok} {e : α → V} {e' : β → V} {F : Nat → Nat → Nat → Option Out} {r : Rs α} {g : α → β} (he : ∀ a, e' (g a) = e a) (h : Sim l e F r) : Sim l e' F (thenR r fun a j => .ok (g a) j) := by
  intro hr
  cases r with
  | ok a j =>
    have := h (fun q => by cases q)
    show Ev F ⟨true, e' (g a), D.junk, [rd l j], 0⟩
    rw [he]
    exact this
  | no j => exact h (fun q => by cases q)
  | out => exact absurd rfl hr
/-- A reader of the program does what the reader q does. -/
def Reads {α : Type} (l : List Tok) (f : FuncId) (enc : α → V) (R : Nat → Rs α) : Prop := ∀ i, i < l.length → Sim l enc (fun _ k _ => Ak k false f [V.one (X.ptr 0 0)] (rds l i)) (R i)
/-- The text's tokens are good and few. -/
structure Few (l : List Tok) : Prop where
  good : GoodL l
  len : l.length ≤ 1000000
theorem T.rows_app (a : List T) (b : T) : T.rows (a ++ [b]) = T.rows a ++ [[D.int IntKind.i64 b.k, D.list 2 (T.rows b.l)]] := by
  rw [T.rows_map, T.rows_map, List.map_append, List.map_singleton, T.row_eq, T.rows_map]
theorem T.rows_len (a : List T) : (T.rows a).length = a.length := by rw [T.rows_map, List.length_map]
theorem T.rows_one (a : T) : T.rows [a] = [[D.int IntKind.i64 a.k, D.list 2 (T.rows a.l)]] := T.rows_app [] a
theorem T.rows_two (a b : T) : T.rows [a, b] = [[D.int IntKind.i64 a.k, D.list 2 (T.rows a.l)], [D.int IntKind.i64 b.k, D.list 2 (T.rows b.l)]] := by
  have := T.rows_app [a] b
  rw [T.rows_one] at this
  exact this
theorem roomy (n c : Nat) (hn : n ≤ 1000000) (hc : c ≤ 1000) : Nat.ble ((n + 1) * c) 140737488355328 = true := by
  have h1 : (n + 1) * c ≤ 1000001 * 1000 := Nat.mul_le_mul (by omega) hc
  exact Nat.ble_eq_true_of_le (by omega)
section
variable {α : Type} {l : List Tok} {enc : α → V}
theorem S_T {f : FuncId} {args : List V} {rows : List (List Lf × List X)} {r : Rs T} {g : T → Nat → Rs α} {K : Nat → Nat → Nat → Int → List (List D) → List (List D) → Int → Option Out} {Q : Nat → Nat → Nat → D → List (List D) → Int → Option Out}
    (h : Sim l tV (fun _ k _ => Ak k false f args rows) r) (hp : PanOn Q)
    (hy : ∀ a j, r = .ok a j → Sim l enc (fun m k n => K m k n a.k (T.rows a.l) (toks l) (Int.ofNat j)) (g a j)) :
    Sim l enc (fun m k n => r_a2IL2_L5I (Ak k false f args rows) (K m k n) (Q m k n)) (thenR r g) := by
  cases r with
  | ok a j => exact fun hr => v_a2IL2_L5I (h (fun q => by cases q)) (hy a j rfl hr)
  | no j => exact fun hr => u_a2IL2_L5I (h (fun q => by cases q)) (Ev.of fun m k n => hp m k n _ _ _)
  | out => exact fun hr => absurd rfl hr
end
theorem typ_ok {l : List Tok} (hl : Few l) : ∀ μ i, i < l.length → l.length - i < μ → Sim l tV (fun _ k _ => Ak k false 90 [V.one (X.ptr 0 0)] (rds l i)) (pw l .typ i) ∧
    ∀ (acc : List T) z z' x2, acc.length ≤ i → Sim l tV (fun m k n => l90_0 m (Ak k) n z z' (toks l) (Int.ofNat i) x2 3 (T.rows acc)) (run (pw l) l (.call .typs fun r => .ret (T.mk 3 (acc ++ r))) i)
  | 0, i, hi, h => by omega
  | μ + 1, i, hi, h => by
    have ih := typ_ok hl μ
    have g := hl.good
    refine ⟨?_, fun acc z z' x2 ha => ?_⟩
    · rw [pw_eq g _ i hi]
      refine fun hr => call90 _ _ ((?_ : Sim l tV (fun _ k n => e90 (Ak k) n (toks l) (Int.ofNat i)) (run (pw l) l (body .typ) i)) hr)
      clear hr
      simp only [e90_eq]
      refine S_take hl.len hi wBool (fun h => Sim.yes rfl (Sim.ret fun _ _ _ => rfl)) (fun h => Sim.no rfl ?_)
      refine S_take hl.len hi wInt (fun h => Sim.yes rfl (Sim.ret fun _ _ _ => rfl)) (fun h => Sim.no rfl ?_)
      refine S_take hl.len hi wLb (fun h => Sim.yes rfl ?_) (fun h => Sim.no rfl ?_)
      · have h1 := nx g hi h
        rw [run_call]
        refine S_T (ih _ h1 (by omega)).1 (fun _ _ _ _ _ _ => rfl) fun a j hj => ?_
        have hf := pw_ok g h1 hj
        refine S_want hl.len hf.2 wRb (fun _ _ _ _ _ _ => rfl) fun h2 => Sim.ret fun _ _ _ => ?_
        unfold tV
        rw [T.k, T.l, T.rows_one]
      · simp only [q90_0_eq]
        refine S_want hl.len hi wLp (fun _ _ _ _ _ _ => rfl) fun h2 => ?_
        have h1 := nx g hi h2
        rw [run_call]
        refine S_T (ih _ h1 (by omega)).1 (fun _ _ _ _ _ _ => rfl) fun a j hj => ?_
        have hf := pw_ok g h1 hj
        refine S_want hl.len hf.2 wCm (fun _ _ _ _ _ _ => rfl) fun h3 => ?_
        have h4 := nx g hf.2 h3
        rw [run_call]
        refine S_T (ih _ h4 (by omega)).1 (fun _ _ _ _ _ _ => rfl) fun b j2 hj2 => ?_
        have hf2 := pw_ok g h4 hj2
        rw [← T.rows_two]
        exact Sim.diag ((ih j2 hf2.2 (by omega)).2 [a, b] _ _ _ (by simp only [List.length_cons, List.length_nil]; omega))
    · rw [run_open g _ _ i hi]
      refine Sim.step ?_
      simp only [l90_0_eq]
      refine S_take hl.len hi wCm (fun h => Sim.yes rfl ?_) (fun h => Sim.no rfl ?_)
      · have h1 := nx g hi h
        simp only [q90_1_eq]
        refine Eq.subst (motive := fun r => Sim l tV _ r) (run_call _ _ _).symm ?_
        refine S_T (ih _ h1 (by omega)).1 (fun _ _ _ _ _ _ => rfl) fun a j hj => ?_
        have hf := pw_ok g h1 hj
        refine Sim.yes (by rw [T.rows_len]; exact roomy _ _ (by have := hl.len; omega) (by omega)) ?_
        rw [← T.rows_app]
        have := (ih j hf.2 (by omega)).2 (acc ++ [a]) z z' x2 (by rw [List.length_append, List.length_singleton]; omega)
        simp only [List.append_assoc, List.singleton_append] at this
        exact this
      · simp only [q90_2_eq]
        refine S_want hl.len hi wRp (fun _ _ _ _ _ _ => rfl) fun h2 => Sim.ret fun _ _ _ => ?_
        rw [List.append_nil]
        rfl
end Go.Proofs.Ytbmcafehpgimfaa.Ps
namespace Go.Proofs.Ytbmcafehpgimfaa.Ps
set_option linter.unusedVariables false
set_option linter.unusedSimpArgs false
open Go Go.RowKit Px
open Lx (Tok)

def esV (l : List E) : V := V.one (X.d (D.list 8 (E.rows l)))
def osV (l : List Int) : V := V.one (X.d (D.list 1 (ints l)))
def nV (n : Int) : V := V.one (X.d (D.int IntKind.i64 n))
theorem E.rows_app (a : List E) (b : E) : E.rows (a ++ [b]) = E.rows a ++ [[D.int IntKind.i64 b.k, D.int IntKind.i64 b.n, D.str (bx b.name), D.list 1 (strs b.names), D.list 1 (ints b.odds), D.list 8 (E.rows b.kids), D.int IntKind.i64 b.line, D.int IntKind.i64 b.col]] := by
  rw [E.rows_map, E.rows_map, List.map_append, List.map_singleton, E.row_eq, E.rows_map]
theorem E.rows_len (a : List E) : (E.rows a).length = a.length := by rw [E.rows_map, List.length_map]
theorem E.rows_one (b : E) : E.rows [b] = [[D.int IntKind.i64 b.k, D.int IntKind.i64 b.n, D.str (bx b.name), D.list 1 (strs b.names), D.list 1 (ints b.odds), D.list 8 (E.rows b.kids), D.int IntKind.i64 b.line, D.int IntKind.i64 b.col]] := E.rows_app [] b
theorem E.rows_cons (b : E) (r : List E) : E.rows (b :: r) = [D.int IntKind.i64 b.k, D.int IntKind.i64 b.n, D.str (bx b.name), D.list 1 (strs b.names), D.list 1 (ints b.odds), D.list 8 (E.rows b.kids), D.int IntKind.i64 b.line, D.int IntKind.i64 b.col] :: E.rows r := by
  rw [E.rows_map, List.map_cons, E.row_eq, E.rows_map r]
theorem E.rows_nil : E.rows [] = [] := by rw [E.rows]
theorem strs_app (a : List (List UInt8)) (b : List UInt8) : strs (a ++ [b]) = strs a ++ [[D.str (bx b)]] := by unfold strs; rw [List.map_append]; rfl
theorem strs_len (a : List (List UInt8)) : (strs a).length = a.length := List.length_map ..
section
variable {α : Type} {l : List Tok} {enc : α → V}
theorem S_E {f : FuncId} {args : List V} {rows : List (List Lf × List X)} {r : Rs E} {g : E → Nat → Rs α} {K : Nat → Nat → Nat → Int → Int → ByteArray → List (List D) → List (List D) → List (List D) → Int → Int → List (List D) → Int → Option Out} {Q : Nat → Nat → Nat → D → List (List D) → Int → Option Out}
    (h : Sim l eV (fun _ k _ => Ak k false f args rows) r) (hp : PanOn Q)
    (hy : ∀ a j, r = .ok a j → Sim l enc (fun m k n => K m k n a.k a.n (bx a.name) (strs a.names) (ints a.odds) (E.rows a.kids) a.line a.col (toks l) (Int.ofNat j)) (g a j)) :
    Sim l enc (fun m k n => r_a8IISL1L1L8II_L5I (Ak k false f args rows) (K m k n) (Q m k n)) (thenR r g) := by
  cases r with
  | ok a j => exact fun hr => v_a8IISL1L1L8II_L5I (h (fun q => by cases q)) (hy a j rfl hr)
  | no j => exact fun hr => u_a8IISL1L1L8II_L5I (h (fun q => by cases q)) (Ev.of fun m k n => hp m k n _ _ _)
  | out => exact fun hr => absurd rfl hr
theorem S_F {f : FuncId} {args : List V} {rows : List (List Lf × List X)} {r : Rs Fld} {g : Fld → Nat → Rs α} {K : Nat → Nat → Nat → ByteArray → Int → List (List D) → Int → Int → List (List D) → Int → Option Out} {Q : Nat → Nat → Nat → D → List (List D) → Int → Option Out}
    (h : Sim l fV (fun _ k _ => Ak k false f args rows) r) (hp : PanOn Q)
    (hy : ∀ a j, r = .ok a j → Sim l enc (fun m k n => K m k n (bx a.name) a.typ.k (T.rows a.typ.l) a.line a.col (toks l) (Int.ofNat j)) (g a j)) :
    Sim l enc (fun m k n => r_a5SIL2II_L5I (Ak k false f args rows) (K m k n) (Q m k n)) (thenR r g) := by
  cases r with
  | ok a j => exact fun hr => v_a5SIL2II_L5I (h (fun q => by cases q)) (hy a j rfl hr)
  | no j => exact fun hr => u_a5SIL2II_L5I (h (fun q => by cases q)) (Ev.of fun m k n => hp m k n _ _ _)
  | out => exact fun hr => absurd rfl hr
theorem S_L {f : FuncId} {args : List V} {rows : List (List Lf × List X)} {r : Rs (List E)} {g : List E → Nat → Rs α} {K : Nat → Nat → Nat → List (List D) → List (List D) → Int → Option Out} {Q : Nat → Nat → Nat → D → List (List D) → Int → Option Out}
    (h : Sim l esV (fun _ k _ => Ak k false f args rows) r) (hp : PanOn Q)
    (hy : ∀ a j, r = .ok a j → Sim l enc (fun m k n => K m k n (E.rows a) (toks l) (Int.ofNat j)) (g a j)) :
    Sim l enc (fun m k n => r_oL8_L5I (Ak k false f args rows) (K m k n) (Q m k n)) (thenR r g) := by
  cases r with
  | ok a j => exact fun hr => v_oL8_L5I (h (fun q => by cases q)) (hy a j rfl hr)
  | no j => exact fun hr => u_oL8_L5I (h (fun q => by cases q)) (Ev.of fun m k n => hp m k n _ _ _)
  | out => exact fun hr => absurd rfl hr
theorem S_O {f : FuncId} {args : List V} {rows : List (List Lf × List X)} {r : Rs (List Int)} {g : List Int → Nat → Rs α} {K : Nat → Nat → Nat → List (List D) → List (List D) → Int → Option Out} {Q : Nat → Nat → Nat → D → List (List D) → Int → Option Out}
    (h : Sim l osV (fun _ k _ => Ak k false f args rows) r) (hp : PanOn Q)
    (hy : ∀ a j, r = .ok a j → Sim l enc (fun m k n => K m k n (ints a) (toks l) (Int.ofNat j)) (g a j)) :
    Sim l enc (fun m k n => r_oL1_L5I (Ak k false f args rows) (K m k n) (Q m k n)) (thenR r g) := by
  cases r with
  | ok a j => exact fun hr => v_oL1_L5I (h (fun q => by cases q)) (hy a j rfl hr)
  | no j => exact fun hr => u_oL1_L5I (h (fun q => by cases q)) (Ev.of fun m k n => hp m k n _ _ _)
  | out => exact fun hr => absurd rfl hr
theorem S_I {f : FuncId} {args : List V} {rows : List (List Lf × List X)} {r : Rs Int} {g : Int → Nat → Rs α} {K : Nat → Nat → Nat → Int → List (List D) → Int → Option Out} {Q : Nat → Nat → Nat → D → List (List D) → Int → Option Out}
    (h : Sim l nV (fun _ k _ => Ak k false f args rows) r) (hp : PanOn Q)
    (hy : ∀ a j, r = .ok a j → Sim l enc (fun m k n => K m k n a (toks l) (Int.ofNat j)) (g a j)) :
    Sim l enc (fun m k n => r_oI_L5I (Ak k false f args rows) (K m k n) (Q m k n)) (thenR r g) := by
  cases r with
  | ok a j => exact fun hr => v_oI_L5I (h (fun q => by cases q)) (hy a j rfl hr)
  | no j => exact fun hr => u_oI_L5I (h (fun q => by cases q)) (Ev.of fun m k n => hp m k n _ _ _)
  | out => exact fun hr => absurd rfl hr
/-- A new expression. -/
theorem S_begin (κ : Int) (t : Tok) {r : Rs α} {K : Nat → Nat → Nat → Int → Int → ByteArray → Int → Int → Option Out} {Q : Nat → Nat → Nat → D → Option Out}
    (h : Sim l enc (fun m k n => K m k n κ 0 (bx []) t.line t.col) r) :
    Sim l enc (fun m k n => r_a8IISN1N1N8II (Ak k false 52 [V.one (X.d (D.int IntKind.i64 κ)), V.agg [X.d (D.int IntKind.i64 t.kind), X.d (D.str (bx t.text)), X.d (D.int IntKind.i64 t.n), X.d (D.int IntKind.i64 t.line), X.d (D.int IntKind.i64 t.col)]] []) (K m k n) (Q m k n)) r :=
  fun hr => v_a8IISN1N1N8II (call52 _ _ _ _ _ _ (Ev.of fun m k n => by rw [e52_eq]; rfl)) (h hr)
end
/-! ### Does a list hold a string? -/
theorem L_index (ls : List (List UInt8)) (hls : ls.length ≤ 1000000) (s : List UInt8) : ∀ (d i : Nat), ls.length - i ≤ d → i ≤ ls.length → ∃ v : Int, (decide (v ≥ 0) = (ls.drop i).contains s) ∧
    Ev (fun m k n => l103_0 m (Ak k) n (strs ls) (bx s) (Int.ofNat ls.length) (Int.ofNat i)) ⟨true, V.one (X.d (D.int IntKind.i64 v)), D.junk, [], 0⟩ := by
  intro d
  induction d with
  | zero =>
    intro i h hi
    refine ⟨-1, ?_, ?_⟩
    · rw [List.drop_eq_nil_of_le (by omega)]; rfl
    · refine Ev.step ?_
      simp only [l103_0_eq, lt_no i _ (show ls.length ≤ i by omega), cond_false]
      exact Ev.of fun m k n => by rw [q103_2_eq]
  | succ d ih =>
    intro i h hi
    by_cases hlt : i < ls.length
    · have hat : (strs ls).getD i [] = [D.str (bx (ls.getD i []))] := by
        unfold strs
        rw [rows_getD _ _ _ hlt]
        rfl
      have hdrop : ls.drop i = ls.getD i [] :: ls.drop (i + 1) := by
        rw [List.drop_eq_getElem_cons hlt, List.getD_eq_getElem?_getD, List.getElem?_eq_getElem hlt]
        rfl
      by_cases he : ls.getD i [] = s
      · refine ⟨Int.ofNat i, ?_, ?_⟩
        · rw [hdrop, he]
          simp
        · refine Ev.step ?_
          simp only [l103_0_eq, lt_yes i _ hlt, cond_true]
          refine Ev.of fun m k n => ?_
          rw [q103_0_eq, strs_len, in_range i _ hlt, cond_true, tn, hat, he]
          show (bif beqL (bx s).data.toList (bx s).data.toList then _ else _) = _
          rw [beqL_eq, beq_self_eq_true]
          rfl
      · obtain ⟨v, hv, hev⟩ := ih (i + 1) (by omega) (by omega)
        refine ⟨v, ?_, ?_⟩
        · rw [hv, hdrop, List.contains_cons]
          have : (s == ls.getD i []) = false := by simpa using fun e => he e.symm
          rw [this, Bool.false_or]
        · refine Ev.step (Ev.eq hev fun m k n => ?_)
          rw [l103_0_eq, lt_yes i _ hlt, cond_true, q103_0_eq, strs_len, in_range i _ hlt, cond_true, tn, hat]
          show (bif beqL (bx s).data.toList (bx (ls.getD i [])).data.toList then _ else _) = _
          rw [beqL_eq, bx_data, bx_data, show (s == ls.getD i []) = false by simpa using fun e => he e.symm, cond_false, q103_1_eq, wrap_up i (by omega)]
    · refine ⟨-1, ?_, ?_⟩
      · rw [List.drop_eq_nil_of_le (by omega)]; rfl
      · refine Ev.step ?_
        simp only [l103_0_eq, lt_no i _ (show ls.length ≤ i by omega), cond_false]
        exact Ev.of fun m k n => by rw [q103_2_eq]
theorem C_contains (ls : List (List UInt8)) (hls : ls.length ≤ 1000000) (s : List UInt8) : Cal 95 [V.one (X.d (D.list 1 (strs ls))), V.one (X.d (D.str (bx s)))] [] ⟨true, V.one (X.d (D.bool (ls.contains s))), D.junk, [], 0⟩ := by
  obtain ⟨v, hv, hev⟩ := L_index ls hls s ls.length 0 (by omega) (by omega)
  refine call95 _ _ ?_
  simp only [e95_eq]
  refine v_oI (y0 := v) (call103 _ _ ?_) (Ev.of fun m k n => by rw [hv]; rfl)
  simp only [e103_eq, strs_len]
  exact Ev.diag hev
/-! ### The operator that comes -/
def opAt (n : Nat) (t : Tok) : List UInt8 := if (opsOf n).any (fun s => isT s t) then t.text else []
theorem run_any {α : Type} {P : (q : NT) → Nat → Rs (Ret q)} {l : List Tok} (y n : Pm α) (i : Nat) : ∀ ss : List (List UInt8), run P l (Pm.any ss y n) i = if ss.any (fun s => isT s (tk l i)) then run P l y i else run P l n i
  | [] => rfl
  | s :: ss => by
    show run P l (.tst s y (Pm.any ss y n)) i = _
    rw [run, List.any_cons]
    cases isT s (tk l i)
    · rw [cond_false, Bool.false_or]; exact run_any y n i ss
    · rfl
theorem isT_sign {s : List UInt8} {t : Tok} (h : (t.kind == 4 || t.kind == 2) = true) : isT s t = (t.text == s) := by unfold isT; rw [h, Bool.true_and]
theorem isT_none {s : List UInt8} {t : Tok} (h : (t.kind == 4 || t.kind == 2) = false) : isT s t = false := by unfold isT; rw [h, Bool.false_and]
theorem C_oper {l : List Tok} {i : Nat} (hi : i < l.length) (n : Nat) (hn : n ≤ 5) : Cal 82 [V.one (X.ptr 0 0), V.one (X.d (D.int IntKind.i64 (Int.ofNat n)))] (rds l i) ⟨true, V.one (X.d (D.str (bx (opAt n (tk l i))))), D.junk, [rd l i], 0⟩ := by
  refine call82 _ _ _ ?_
  simp only [e82_eq]
  refine v_a5ISIII_L5I (C_token hi) ?_
  generalize tk l i = t
  cases hk : (t.kind == 4 || t.kind == 2) with
  | false =>
    rw [Bool.or_eq_false_iff] at hk
    have h0 : opAt n t = [] := by
      unfold opAt
      rw [if_neg]
      rw [Bool.not_eq_true, List.any_eq_false]
      exact fun s _ => by rw [isT_none (by rw [hk.1, hk.2]; rfl)]; simp
    refine Ev.of fun m k n' => ?_
    rw [h0, show (t.kind != 4) = true by rw [bne, hk.1]; rfl, show (t.kind != 2) = true by rw [bne, hk.2]; rfl]
    rfl
  | true =>
    have hq : Ev (fun m k n' => q82_0 (Ak k) n' (toks l) (Int.ofNat i) (Int.ofNat n) (toks l) (Int.ofNat i) t.kind (bx t.text) t.n t.line t.col) ⟨true, V.one (X.d (D.str (bx (opAt n t)))), D.junk, [rd l i], 0⟩ := by
      have e1 : ∀ s, isT s t = (t.text == s) := fun s => isT_sign hk
      simp only [q82_0_eq, beqL_eq, bx_data, q82_1_eq]
      unfold opAt
      simp only [e1]
      have fin : ∀ {c : Bool} {z : List UInt8}, c = true → Ev (fun _ _ _ => some (Out.mk true (V.one (X.d (D.str (bx t.text)))) D.junk [rd l i] 0)) ⟨true, V.one (X.d (D.str (bx (if c = true then t.text else z)))), D.junk, [rd l i], 0⟩ := fun {c z} h => by rw [if_pos h]; exact Ev.ret _
      have non : ∀ {c : Bool} {z : List UInt8}, c = false → Ev (fun _ _ _ => some (Out.mk true (V.one (X.d (D.str ⟨#[]⟩))) D.junk [rd l i] 0)) ⟨true, V.one (X.d (D.str (bx (if c = true then z else [])))), D.junk, [rd l i], 0⟩ := fun {c z} h => by rw [h]; exact Ev.ret _
      match n, hn with
      | 0, _ =>
        cases h : t.text == wOr
        · exact non (by simp [opsOf, h])
        · exact fin (by simp [opsOf, h])
      | 1, _ =>
        cases h : t.text == wAnd
        · exact non (by simp [opsOf, h])
        · exact fin (by simp [opsOf, h])
      | 2, _ =>
        refine Ev.no rfl (Ev.no rfl (Ev.yes rfl ?_))
        refine v_oB (C_contains [wEqEq, wLt, wLe] (by simp) t.text) ?_
        have e2 : [wEqEq, wLt, wLe].contains t.text = (opsOf 2).any fun s => t.text == s := by
          rw [List.contains_cons, List.contains_cons, List.contains_cons, List.contains_nil]
          rfl
        rw [← e2]
        cases h : [wEqEq, wLt, wLe].contains t.text
        · exact non rfl
        · exact fin rfl
      | 3, _ =>
        cases h : t.text == wCc
        · exact non (by simp [opsOf, h])
        · exact fin (by simp [opsOf, h])
      | 4, _ =>
        cases h : t.text == wPl
        · cases h2 : t.text == wMi
          · exact non (by simp [opsOf, h, h2])
          · exact fin (by simp [opsOf, h, h2])
        · exact fin (by simp [opsOf, h])
      | 5, _ =>
        cases h : t.text == wTi
        · cases h2 : t.text == wSl
          · cases h3 : t.text == wPc
            · exact non (by simp [opsOf, h, h2, h3])
            · exact fin (by simp [opsOf, h, h2, h3])
          · exact fin (by simp [opsOf, h, h2])
        · exact fin (by simp [opsOf, h])
    cases h4 : t.kind == 4
    · rw [h4, Bool.false_or] at hk
      refine Ev.eq hq fun m k n' => ?_
      rw [show (t.kind != 4) = true by rw [bne, h4]; rfl, show (t.kind != 2) = false by rw [bne, hk]; rfl]
      rfl
    · refine Ev.eq hq fun m k n' => ?_
      rw [show (t.kind != 4) = false by rw [bne, h4]; rfl]
      rfl
end Go.Proofs.Ytbmcafehpgimfaa.Ps
namespace Go.Proofs.Ytbmcafehpgimfaa.Ps
set_option linter.unusedVariables false
set_option linter.unusedSimpArgs false
open Go Go.RowKit Px
open Lx (Tok)

/-- The text's numbers are small. -/
def Nums (l : List Tok) : Prop := ∀ i, 0 ≤ (tk l i).n ∧ (tk l i).n ≤ 2147483647
structure AllAt (l : List Tok) (i : Nat) : Prop where
  expr : Sim l eV (fun _ k _ => Ak k false 24 [V.one (X.ptr 0 0)] (rds l i)) (pw l .expr i)
  level : ∀ n, n ≤ 6 → Sim l eV (fun _ k _ => Ak k false 56 [V.one (X.ptr 0 0), V.one (X.d (D.int IntKind.i64 (Int.ofNat n)))] (rds l i)) (pw l (.level n) i)
  unary : Sim l eV (fun _ k _ => Ak k false 81 [V.one (X.ptr 0 0)] (rds l i)) (pw l .unary i)
  atom : Sim l eV (fun _ k _ => Ak k false 94 [V.one (X.ptr 0 0)] (rds l i)) (pw l .atom i)
  list : ∀ e, Sim l esV (fun _ k _ => Ak k false 101 [V.one (X.ptr 0 0), V.one (X.d (D.str (bx e)))] (rds l i)) (pw l (.list e) i)
abbrev After (l : List Tok) (i : Nat) : Prop := ∀ j, i < j → j < l.length → AllAt l j
section
variable {l : List Tok}
/-! ### Numbers, shares, bounds -/
theorem share_ok (hl : Few l) (i : Nat) (hi : i < l.length) : Sim l osV (fun _ k _ => Ak k false 55 [V.one (X.ptr 0 0)] (rds l i)) (pw l .share i) := by
  have g := hl.good
  rw [pw_eq g _ i hi]
  refine fun hr => call55 _ _ ((?_ : Sim l osV (fun _ k n => e55 (Ak k) n (toks l) (Int.ofNat i)) (run (pw l) l (body .share) i)) hr)
  clear hr
  simp only [e55_eq]
  refine S_kind hl.len hi 3 (fun _ _ _ _ _ _ => rfl) fun h => ?_
  have h1 := nxk g hi h (by decide)
  refine S_want hl.len h1 wSl (fun _ _ _ _ _ _ => rfl) fun h2 => ?_
  have h3 := nx g h1 h2
  refine S_kind hl.len h3 3 (fun _ _ _ _ _ _ => rfl) fun h4 => ?_
  exact Sim.ret fun _ _ _ => rfl
theorem bound_ok (hl : Few l) (hn : Nums l) (i : Nat) (hi : i < l.length) : Sim l nV (fun _ k _ => Ak k false 102 [V.one (X.ptr 0 0)] (rds l i)) (pw l .bound i) := by
  have g := hl.good
  rw [pw_eq g _ i hi]
  refine fun hr => call102 _ _ ((?_ : Sim l nV (fun _ k n => e102 (Ak k) n (toks l) (Int.ofNat i)) (run (pw l) l (body .bound) i)) hr)
  clear hr
  simp only [e102_eq]
  refine S_take hl.len hi wMi (fun h => Sim.yes rfl ?_) (fun h => Sim.no rfl ?_)
  · have h1 := nx g hi h
    refine S_kind hl.len h1 3 (fun _ _ _ _ _ _ => rfl) fun h2 => Sim.ret fun _ _ _ => ?_
    have := hn (i + 1)
    rw [wrap_in _ (by omega) (by omega)]
    show some (Out.mk true (V.one (X.d (D.int IntKind.i64 (0 - (tk l (i + 1)).n)))) D.junk _ 0) = some (Out.mk true (V.one (X.d (D.int IntKind.i64 (-(tk l (i + 1)).n)))) D.junk _ 0)
    rw [Int.zero_sub]
  · simp only [q102_0_eq]
    exact S_kind hl.len hi 3 (fun _ _ _ _ _ _ => rfl) fun h2 => Sim.ret fun _ _ _ => rfl

/-! ### Lists -/
theorem rest_ok (hl : Few l) (e : List UInt8) : ∀ (d i : Nat), i < l.length → l.length - i ≤ d → After l i → ∀ (acc : List E) z z', acc.length ≤ i →
    Sim l esV (fun m k n => l101_0 m (Ak k) n z z' (bx e) (E.rows acc) (toks l) (Int.ofNat i)) (run (pw l) l (.call (.rest e) fun r => .ret (acc ++ r)) i)
  | 0, i, hi, h, _, _, _, _, _ => by omega
  | d + 1, i, hi, h, H, acc, z, z', ha => by
    have g := hl.good
    rw [run_open g _ _ i hi]
    refine Sim.step ?_
    simp only [l101_0_eq]
    refine S_take hl.len hi wCm (fun h => Sim.yes rfl ?_) (fun h => Sim.no rfl ?_)
    · have h1 := nx g hi h
      simp only [q101_1_eq]
      refine Eq.subst (motive := fun r => Sim l esV _ r) (run_call _ _ _).symm ?_
      refine S_E (H _ (by omega) h1).expr (fun _ _ _ _ _ _ => rfl) fun a j hj => ?_
      have hf := pw_ok g h1 hj
      refine Sim.yes (by rw [E.rows_len]; exact roomy _ _ (by have := hl.len; omega) (by omega)) ?_
      rw [← E.rows_app]
      have := rest_ok hl e d j hf.2 (by omega) (fun j' h1 h2 => H j' (by omega) h2) (acc ++ [a]) z z' (by rw [List.length_append, List.length_singleton]; omega)
      simp only [List.append_assoc, List.singleton_append] at this
      exact this
    · simp only [q101_2_eq]
      refine S_want hl.len hi e (fun _ _ _ _ _ _ => rfl) fun h2 => Sim.ret fun _ _ _ => ?_
      rw [List.append_nil]
      rfl
theorem list_ok (hl : Few l) (e : List UInt8) (i : Nat) (hi : i < l.length) (H : After l i) (he : Sim l eV (fun _ k _ => Ak k false 24 [V.one (X.ptr 0 0)] (rds l i)) (pw l .expr i)) (hpos : ∀ a j, pw l .expr i = .ok a j → i < j) :
    Sim l esV (fun _ k _ => Ak k false 101 [V.one (X.ptr 0 0), V.one (X.d (D.str (bx e)))] (rds l i)) (pw l (.list e) i) := by
  have g := hl.good
  rw [pw_eq g _ i hi]
  refine fun hr => call101 _ _ _ ((?_ : Sim l esV (fun _ k n => e101 (Ak k) n (bx e) (toks l) (Int.ofNat i)) (run (pw l) l (body (.list e)) i)) hr)
  clear hr
  simp only [e101_eq]
  refine S_take hl.len hi e (fun h => Sim.yes rfl (Sim.ret fun _ _ _ => ?_)) (fun h => Sim.no rfl ?_)
  · unfold esV
    rw [E.rows_nil]
  · simp only [q101_0_eq]
    refine Eq.subst (motive := fun r => Sim l esV _ r) (run_call _ _ _).symm ?_
    refine S_E he (fun _ _ _ _ _ _ => rfl) fun a j hj => ?_
    have hf := pw_ok g hi hj
    have hp := hpos a j hj
    rw [← E.rows_one]
    exact Sim.diag (rest_ok hl e _ j hf.2 (Nat.le_refl _) (fun j' h1 h2 => H j' (by omega) h2) [a] _ _ (by simp only [List.length_cons, List.length_nil]; omega))

/-! ### Operators -/
theorem loop_ok (hl : Few l) (n : Nat) (hn : n ≤ 5) : ∀ (d i : Nat), i < l.length → l.length - i ≤ d → After l i → ∀ (left : E) z z' x3 x4 s5 x6 x7,
    Sim l eV (fun m k _ => l56_0 m (Ak k) z z' (Int.ofNat n) (toks l) (Int.ofNat i) x3 x4 s5 x6 x7 left.k left.n (bx left.name) (strs left.names) (ints left.odds) (E.rows left.kids) left.line left.col) (run (pw l) l (.call (.loop n left) .ret) i) ∧
    (left.names = [] → left.odds = [] → Sim l eV (fun m k _ => l56_0_v1 m (Ak k) z z' (Int.ofNat n) (toks l) (Int.ofNat i) x3 x4 s5 x6 x7 left.k left.n (bx left.name) (E.rows left.kids) left.line left.col) (run (pw l) l (.call (.loop n left) .ret) i))
  | 0, i, hi, h, _, _, _, _, _, _, _, _, _ => by omega
  | d + 1, i, hi, h, H, left, z, z', x3, x4, s5, x6, x7 => by
    have g := hl.good
    have hop := C_oper hi n hn
    have e0 : run (pw l) l (.call (.loop n left) .ret) i = if (opsOf n).any (fun s => isT s (tk l i)) then
        run (pw l) l (.call (.level (if n = 3 then 3 else n + 1)) fun r => if n = 2 ∨ n = 3 then .ret (E.mk 7 0 (tk l i).text [] [] [left, r] (tk l i).line (tk l i).col) else .call (.loop n (E.mk 7 0 (tk l i).text [] [] [left, r] (tk l i).line (tk l i).col)) .ret) (i + 1) else .ok left i := by
      have : run (pw l) l (.call (.loop n left) .ret) i = run (pw l) l (body (.loop n left)) i := by
        rw [run_call, pw_eq g _ i hi]
        cases run (pw l) l (body (.loop n left)) i <;> rfl
      rw [this]
      exact run_any _ _ i (opsOf n)
    have go : ∀ {F : Nat → Nat → Nat → Option Out}, (opsOf n).any (fun s => isT s (tk l i)) = true →
        (i + 1 < l.length → Sim l eV F (thenR (pw l (.level (if n = 3 then 3 else n + 1)) (i + 1)) fun r j => run (pw l) l (if n = 2 ∨ n = 3 then .ret (E.mk 7 0 (tk l i).text [] [] [left, r] (tk l i).line (tk l i).col) else .call (.loop n (E.mk 7 0 (tk l i).text [] [] [left, r] (tk l i).line (tk l i).col)) .ret) j)) →
        Sim l eV F (run (pw l) l (.call (.loop n left) .ret) i) := fun {F} ha hf => by
      rw [e0, if_pos ha, run_call]
      obtain ⟨s, _, hs⟩ := List.any_eq_true.1 ha
      exact hf (nx g hi hs)
    have stop : (opsOf n).any (fun s => isT s (tk l i)) = false → ∀ {F : Nat → Nat → Nat → Option Out}, (∀ m k n', F m k n' = some ⟨true, eV left, D.junk, [rd l i], 0⟩) → Sim l eV F (run (pw l) l (.call (.loop n left) .ret) i) := fun ha {F} hf => by
      rw [e0, ha]
      exact fun _ => Ev.of hf
    have ne : (opsOf n).any (fun s => isT s (tk l i)) = true → beqL (bx (tk l i).text).data.toList (ByteArray.mk #[]).data.toList = false := fun ha => by
      obtain ⟨s, hs, ht⟩ := List.any_eq_true.1 ha
      rw [show (ByteArray.mk #[]).data.toList = [] from rfl, bx_data, beqL_eq]
      unfold isT at ht
      rw [Bool.and_eq_true, beq_iff_eq] at ht
      rw [ht.2]
      have : s ≠ [] := fun e => by
        subst e
        match n, hn with
        | 0, _ | 1, _ | 2, _ | 3, _ | 4, _ | 5, _ => simp [opsOf] at hs
      simpa using this
    have rows2 : ∀ r : E, [[D.int IntKind.i64 left.k, D.int IntKind.i64 left.n, D.str (bx left.name), D.list 1 (strs left.names), D.list 1 (ints left.odds), D.list 8 (E.rows left.kids), D.int IntKind.i64 left.line, D.int IntKind.i64 left.col],
        [D.int IntKind.i64 r.k, D.int IntKind.i64 r.n, D.str (bx r.name), D.list 1 (strs r.names), D.list 1 (ints r.odds), D.list 8 (E.rows r.kids), D.int IntKind.i64 r.line, D.int IntKind.i64 r.col]] = E.rows [left, r] := fun r => by rw [E.rows_cons, E.rows_cons, E.rows_nil]
    have b3 : (Int.ofNat n == 3) = decide (n = 3) := by
      rw [Bool.eq_iff_iff, beq_iff_eq, decide_eq_true_eq]
      simp only [Int.ofNat_eq_natCast]
      omega
    have b2 : (Int.ofNat n == 2) = decide (n = 2) := by
      rw [Bool.eq_iff_iff, beq_iff_eq, decide_eq_true_eq]
      simp only [Int.ofNat_eq_natCast]
      omega
    have fin : ∀ r j, i + 1 ≤ j → j < l.length → ∀ z z' x3 x4 s5 x6 x7 {F : Nat → Nat → Nat → Option Out},
        (∀ m k n', F m k n' = bif Int.ofNat n == 2 then some (Out.mk true (eV (E.mk 7 0 (tk l i).text [] [] [left, r] (tk l i).line (tk l i).col)) D.junk [rd l j] 0) else bif Int.ofNat n == 3 then some (Out.mk true (eV (E.mk 7 0 (tk l i).text [] [] [left, r] (tk l i).line (tk l i).col)) D.junk [rd l j] 0) else
          l56_0_v1 m (Ak k) z z' (Int.ofNat n) (toks l) (Int.ofNat j) x3 x4 s5 x6 x7 7 0 (bx (tk l i).text) (E.rows [left, r]) (tk l i).line (tk l i).col) →
        Sim l eV F (run (pw l) l (if n = 2 ∨ n = 3 then .ret (E.mk 7 0 (tk l i).text [] [] [left, r] (tk l i).line (tk l i).col) else .call (.loop n (E.mk 7 0 (tk l i).text [] [] [left, r] (tk l i).line (tk l i).col)) .ret) j) := fun r j hj hjl z z' x3 x4 s5 x6 x7 F hF => by
      refine Sim.eq ?_ hF
      rw [b2, b3]
      by_cases h2 : n = 2
      · rw [decide_eq_true h2, if_pos (.inl h2)]
        exact Sim.ret fun _ _ _ => rfl
      · rw [decide_eq_false h2]
        by_cases h3 : n = 3
        · rw [decide_eq_true h3, if_pos (.inr h3)]
          exact Sim.ret fun _ _ _ => rfl
        · rw [decide_eq_false h3, if_neg (fun q => q.elim h2 h3)]
          exact (loop_ok hl n hn d j hjl (by omega) (fun j' h1 h2 => H j' (by omega) h2) (E.mk 7 0 (tk l i).text [] [] [left, r] (tk l i).line (tk l i).col) z z' x3 x4 s5 x6 x7).2 rfl rfl
    refine ⟨?_, fun hns hos => ?_⟩
    · refine Sim.step ?_
      simp only [l56_0_eq]
      refine fun hr => v_a5ISIII_L5I (C_token hi) (v_oS_L5I hop ?_)
      cases ha : (opsOf n).any (fun s => isT s (tk l i)) with
      | false =>
        have e1 : opAt n (tk l i) = [] := by unfold opAt; rw [ha]; rfl
        refine (stop ha fun m k n' => ?_) hr
        rw [e1]
        rfl
      | true =>
        have e1 : opAt n (tk l i) = (tk l i).text := by unfold opAt; rw [ha]; rfl
        rw [e1]
        refine (go ha fun h1 => ?_) hr
        refine Sim.no (ne ha) ?_
        simp only [q56_1_eq]
        refine S_begin 7 (tk l i) ?_
        rw [up hl.len hi]
        by_cases h3 : n = 3
        · refine Sim.yes (by rw [b3, decide_eq_true h3]) ?_
          simp only [q56_2_eq]
          rw [if_pos h3]
          refine S_E ((H _ (by omega) h1).level 3 (by omega)) (fun _ _ _ _ _ _ => rfl) fun r j hj => ?_
          have hf := pw_ok g h1 hj
          refine fin r j hf.1 hf.2 z z' x3 x4 s5 x6 x7 fun m k n' => ?_
          have := rows2 r
          skip
          unfold eV
          simp only [E.k, E.n, E.name, E.names, E.odds, E.kids, E.line, E.col, q56_3_eq, ← this]
          rfl
        · refine Sim.no (by rw [b3, decide_eq_false h3]) ?_
          simp only [q56_2_eq]
          rw [if_neg h3, wrap_up n (by omega)]
          refine S_E ((H _ (by omega) h1).level (n + 1) (by omega)) (fun _ _ _ _ _ _ => rfl) fun r j hj => ?_
          have hf := pw_ok g h1 hj
          refine fin r j hf.1 hf.2 z z' x3 x4 s5 x6 x7 fun m k n' => ?_
          have := rows2 r
          skip
          unfold eV
          simp only [E.k, E.n, E.name, E.names, E.odds, E.kids, E.line, E.col, q56_3_eq, ← this]
          rfl
    · refine Sim.step ?_
      simp only [l56_0_v1_eq]
      refine fun hr => v_a5ISIII_L5I (C_token hi) (v_oS_L5I hop ?_)
      cases ha : (opsOf n).any (fun s => isT s (tk l i)) with
      | false =>
        have e1 : opAt n (tk l i) = [] := by unfold opAt; rw [ha]; rfl
        refine (stop ha fun m k n' => ?_) hr
        rw [e1]
        unfold eV
        rw [hns, hos]
        rfl
      | true =>
        have e1 : opAt n (tk l i) = (tk l i).text := by unfold opAt; rw [ha]; rfl
        rw [e1]
        refine (go ha fun h1 => ?_) hr
        refine Sim.no (ne ha) ?_
        simp only [q56_1_v1_eq]
        refine S_begin 7 (tk l i) ?_
        rw [up hl.len hi]
        by_cases h3 : n = 3
        · refine Sim.yes (by rw [b3, decide_eq_true h3]) ?_
          simp only [q56_2_v1_eq]
          rw [if_pos h3]
          refine S_E ((H _ (by omega) h1).level 3 (by omega)) (fun _ _ _ _ _ _ => rfl) fun r j hj => ?_
          have hf := pw_ok g h1 hj
          refine fin r j hf.1 hf.2 z z' x3 x4 s5 x6 x7 fun m k n' => ?_
          have := rows2 r
          rw [hns, hos] at this
          unfold eV
          simp only [E.k, E.n, E.name, E.names, E.odds, E.kids, E.line, E.col, q56_3_v1_eq, ← this]
          rfl
        · refine Sim.no (by rw [b3, decide_eq_false h3]) ?_
          simp only [q56_2_v1_eq]
          rw [if_neg h3, wrap_up n (by omega)]
          refine S_E ((H _ (by omega) h1).level (n + 1) (by omega)) (fun _ _ _ _ _ _ => rfl) fun r j hj => ?_
          have hf := pw_ok g h1 hj
          refine fin r j hf.1 hf.2 z z' x3 x4 s5 x6 x7 fun m k n' => ?_
          have := rows2 r
          rw [hns, hos] at this
          unfold eV
          simp only [E.k, E.n, E.name, E.names, E.odds, E.kids, E.line, E.col, q56_3_v1_eq, ← this]
          rfl
end
end Go.Proofs.Ytbmcafehpgimfaa.Ps
namespace Go.Proofs.Ytbmcafehpgimfaa.Ps
set_option linter.unusedVariables false
set_option linter.unusedSimpArgs false
open Go Go.RowKit Px
open Lx (Tok)
open Pm (want)

section
variable {l : List Tok} {P : (q : NT) → Nat → Rs (Ret q)}
theorem S_ret {k n : Int} {s : List UInt8} {ns : List (List UInt8)} {os : List Int} {ks : List E} {a b : Int} {rows names odds : List (List D)} {j : Nat} {F : Nat → Nat → Nat → Option Out}
    (h1 : rows = E.rows ks) (h2 : names = strs ns) (h3 : odds = ints os)
    (hF : ∀ m k' n', F m k' n' = some ⟨true, V.agg [iX k, iX n, sX s, X.d (D.list 1 names), X.d (D.list 1 odds), X.d (D.list 8 rows), iX a, iX b], D.junk, [rd l j], 0⟩) :
    Sim l eV F (run P l (.ret (E.mk k n s ns os ks a b)) j) := by
  subst h1 h2 h3
  exact Sim.ret hF
theorem S_fail {α : Type} {enc : α → V} {i : Nat} (hi : i < l.length) {K : Nat → Nat → Nat → List (List D) → Int → Option Out} {Q : Nat → Nat → Nat → D → List (List D) → Int → Option Out} (hp : PanOn Q) :
    Sim l enc (fun m k n => r_n_L5I (Ak k false 50 [V.one (X.ptr 0 0)] (rds l i)) (K m k n) (Q m k n)) (run P l .fail i) :=
  fun hr => u_n_L5I (C_fail hi) (Ev.of fun m k n => hp m k n _ _ _)
theorem E.rows_two (x y : E) : E.rows [x, y] = [[D.int IntKind.i64 x.k, D.int IntKind.i64 x.n, D.str (bx x.name), D.list 1 (strs x.names), D.list 1 (ints x.odds), D.list 8 (E.rows x.kids), D.int IntKind.i64 x.line, D.int IntKind.i64 x.col], [D.int IntKind.i64 y.k, D.int IntKind.i64 y.n, D.str (bx y.name), D.list 1 (strs y.names), D.list 1 (ints y.odds), D.list 8 (E.rows y.kids), D.int IntKind.i64 y.line, D.int IntKind.i64 y.col]] := by
  rw [E.rows_cons, E.rows_cons, E.rows_nil]
theorem E.rows_three (x y z : E) : E.rows [x, y, z] = [[D.int IntKind.i64 x.k, D.int IntKind.i64 x.n, D.str (bx x.name), D.list 1 (strs x.names), D.list 1 (ints x.odds), D.list 8 (E.rows x.kids), D.int IntKind.i64 x.line, D.int IntKind.i64 x.col], [D.int IntKind.i64 y.k, D.int IntKind.i64 y.n, D.str (bx y.name), D.list 1 (strs y.names), D.list 1 (ints y.odds), D.list 8 (E.rows y.kids), D.int IntKind.i64 y.line, D.int IntKind.i64 y.col], [D.int IntKind.i64 z.k, D.int IntKind.i64 z.n, D.str (bx z.name), D.list 1 (strs z.names), D.list 1 (ints z.odds), D.list 8 (E.rows z.kids), D.int IntKind.i64 z.line, D.int IntKind.i64 z.col]] := by
  rw [E.rows_cons, E.rows_cons, E.rows_cons, E.rows_nil]
/-! ### Names -/
theorem lets_ok (hl : Few l) (i : Nat) (hi : i < l.length) (H : After l i) (t : Tok) (ns : List (List UInt8)) (z' : List (List D)) (z3 x2 x3 : Int) (s4 : ByteArray) (x5 x6 : Int) :
    Sim l eV (fun _ k n => q24_2 (Ak k) n z' z3 (toks l) (Int.ofNat i) x2 x3 s4 x5 x6 8 0 (bx []) (strs ns) t.line t.col) (run (pw l) l (lets t ns) i) := by
  have g := hl.good
  simp only [q24_2_eq]
  unfold lets
  refine S_want hl.len hi wEq (fun _ _ _ _ _ _ => rfl) fun h => ?_
  have h1 := nx g hi h
  rw [run_call]
  refine S_E (H _ (by omega) h1).expr (fun _ _ _ _ _ _ => rfl) fun a j hj => ?_
  have hf := pw_ok g h1 hj
  refine S_want hl.len hf.2 wIn (fun _ _ _ _ _ _ => rfl) fun h2 => ?_
  have h3 := nx g hf.2 h2
  rw [run_call]
  refine S_E (H _ (by omega) h3).expr (fun _ _ _ _ _ _ => rfl) fun b j2 hj2 => ?_
  exact S_ret (E.rows_two a b).symm rfl rfl fun _ _ _ => rfl
theorem names_ok (hl : Few l) (t : Tok) (z' : List (List D)) (z3 x2 x3 : Int) (s4 : ByteArray) (x5 x6 : Int) : ∀ (d i : Nat), i < l.length → l.length - i ≤ d → After l i → ∀ acc : List (List UInt8), acc.length ≤ i →
    Sim l eV (fun m k n => l24_0 m (Ak k) n z' z3 (toks l) (Int.ofNat i) x2 x3 s4 x5 x6 8 0 (bx []) (strs acc) t.line t.col) (run (pw l) l (.call .names fun r => lets t (acc ++ r)) i)
  | 0, i, hi, h, _, _, _ => by omega
  | d + 1, i, hi, h, H, acc, ha => by
    have g := hl.good
    rw [run_open g _ _ i hi]
    refine Sim.step ?_
    simp only [l24_0_eq]
    refine S_take hl.len hi wCm (fun h => Sim.yes rfl ?_) (fun h => Sim.no rfl ?_)
    · have h1 := nx g hi h
      simp only [q24_0_eq]
      refine S_kind hl.len h1 1 (fun _ _ _ _ _ _ => rfl) fun h2 => ?_
      have h3 := nxk g h1 h2 (by decide)
      refine Sim.yes (by rw [strs_len]; exact roomy _ _ (by have := hl.len; omega) (by omega)) ?_
      rw [← strs_app]
      have := names_ok hl t z' z3 x2 x3 s4 x5 x6 d (i + 1 + 1) h3 (by omega) (fun j' h1 h2 => H j' (by omega) h2) (acc ++ [(tk l (i + 1)).text]) (by rw [List.length_append, List.length_singleton]; omega)
      simp only [List.append_assoc, List.singleton_append] at this
      exact this
    · simp only [q24_1_eq]
      refine S_want hl.len hi wRp (fun _ _ _ _ _ _ => rfl) fun h2 => ?_
      have h3 := nx g hi h2
      show Sim l eV _ (run (pw l) l (lets t (acc ++ [])) (i + 1))
      rw [List.append_nil]
      exact lets_ok hl (i + 1) h3 (fun j' h1 h2 => H j' (by omega) h2) t acc z' z3 x2 x3 s4 x5 x6

/-! ### Choices -/
theorem case_ok (hl : Few l) (i : Nat) (hi : i < l.length) (H : After l i) (t : Tok) (x : E) (z' : List (List D)) (z3 x2 x3 : Int) (s4 : ByteArray) (x5 x6 : Int) :
    Sim l eV (fun m k n => l24_1 m (Ak k) n z' z3 (strs [wOf, wLb, wRb, wAr]) 4 0 (toks l) (Int.ofNat i) x2 x3 s4 x5 x6 10 0 (bx []) (E.rows [x]) t.line t.col) (run (pw l) l (want wOf (want wLb (want wRb (want wAr (caseK2 t x))))) i) := by
  have g := hl.good
  refine Sim.step ?_
  simp only [l24_1_eq, q24_3_eq, q24_4_eq]
  refine Sim.yes rfl (Sim.yes rfl ?_)
  refine S_want hl.len hi wOf (fun _ _ _ _ _ _ => rfl) fun h => ?_
  have h1 := nx g hi h
  refine Sim.step ?_
  simp only [l24_1_eq, q24_3_eq, q24_4_eq]
  refine Sim.yes rfl (Sim.yes rfl ?_)
  refine S_want hl.len h1 wLb (fun _ _ _ _ _ _ => rfl) fun h => ?_
  have h2 := nx g h1 h
  refine Sim.step ?_
  simp only [l24_1_eq, q24_3_eq, q24_4_eq]
  refine Sim.yes rfl (Sim.yes rfl ?_)
  refine S_want hl.len h2 wRb (fun _ _ _ _ _ _ => rfl) fun h => ?_
  have h3 := nx g h2 h
  refine Sim.step ?_
  simp only [l24_1_eq, q24_3_eq, q24_4_eq]
  refine Sim.yes rfl (Sim.yes rfl ?_)
  refine S_want hl.len h3 wAr (fun _ _ _ _ _ _ => rfl) fun h => ?_
  have h4 := nx g h3 h
  refine Sim.step ?_
  simp only [l24_1_eq, q24_5_eq]
  refine Sim.no rfl ?_
  refine Eq.subst (motive := fun r => Sim l eV _ r) (run_call _ _ _).symm ?_
  refine S_E (H _ (by omega) h4).expr (fun _ _ _ _ _ _ => rfl) fun a j hj => ?_
  have hf := pw_ok g h4 hj
  refine Sim.yes (by rw [E.rows_len]; rfl) ?_
  refine S_want hl.len hf.2 wBar (fun _ _ _ _ _ _ => rfl) fun h => ?_
  have h5 := nx g hf.2 h
  refine S_kind hl.len h5 1 (fun _ _ _ _ _ _ => rfl) fun h => ?_
  have h6 := nxk g h5 h (by decide)
  refine S_want hl.len h6 wCc (fun _ _ _ _ _ _ => rfl) fun h => ?_
  have h7 := nx g h6 h
  refine S_kind hl.len h7 1 (fun _ _ _ _ _ _ => rfl) fun h => ?_
  have h8 := nxk g h7 h (by decide)
  refine S_want hl.len h8 wAr (fun _ _ _ _ _ _ => rfl) fun h => ?_
  have h9 := nx g h8 h
  refine Eq.subst (motive := fun r => Sim l eV _ r) (run_call _ _ _).symm ?_
  refine S_E (H _ (by omega) h9).expr (fun _ _ _ _ _ _ => rfl) fun b j2 hj2 => ?_
  refine Sim.yes (by rw [List.length_append, E.rows_len]; rfl) ?_
  refine S_ret ?_ rfl rfl fun _ _ _ => rfl
  rw [← E.rows_app, ← E.rows_app]
  rfl

/-! ### An expression -/
theorem expr_ok (hl : Few l) (i : Nat) (hi : i < l.length) (H : After l i) (h0 : Sim l eV (fun _ k _ => Ak k false 56 [V.one (X.ptr 0 0), V.one (X.d (D.int IntKind.i64 0))] (rds l i)) (pw l (.level 0) i)) :
    Sim l eV (fun _ k _ => Ak k false 24 [V.one (X.ptr 0 0)] (rds l i)) (pw l .expr i) := by
  have g := hl.good
  rw [pw_eq g _ i hi]
  refine fun hr => call24 _ _ ((?_ : Sim l eV (fun _ k n => e24 (Ak k) n (toks l) (Int.ofNat i)) (run (pw l) l (body .expr) i)) hr)
  clear hr
  simp only [e24_eq]
  refine S_token hi ?_
  refine S_take hl.len hi wLet (fun h => Sim.yes rfl ?_) (fun h => Sim.no rfl ?_)
  · have h1 := nx g hi h
    refine S_begin 8 (tk l i) ?_
    refine S_take hl.len h1 wLp (fun h => Sim.yes rfl ?_) (fun h => Sim.no rfl ?_)
    · have h2 := nx g h1 h
      refine S_kind hl.len h2 1 (fun _ _ _ _ _ _ => rfl) fun h => ?_
      have h3 := nxk g h2 h (by decide)
      refine S_want hl.len h3 wCm (fun _ _ _ _ _ _ => rfl) fun h => ?_
      have h4 := nx g h3 h
      refine S_kind hl.len h4 1 (fun _ _ _ _ _ _ => rfl) fun h => ?_
      have h5 := nxk g h4 h (by decide)
      exact Sim.diag (names_ok hl (tk l i) _ _ _ _ _ _ _ _ _ h5 (Nat.le_refl _) (fun j' h1 h2 => H j' (by omega) h2) [(tk l (i + 1 + 1)).text, (tk l (i + 1 + 1 + 1 + 1)).text] (by simp only [List.length_cons, List.length_nil]; omega))
    · refine S_kind hl.len h1 1 (fun _ _ _ _ _ _ => rfl) fun h => ?_
      have h3 := nxk g h1 h (by decide)
      exact lets_ok hl _ h3 (fun j' h1 h2 => H j' (by omega) h2) (tk l i) [(tk l (i + 1)).text] _ _ _ _ _ _ _
  refine S_take hl.len hi wIf (fun h => Sim.yes rfl ?_) (fun h => Sim.no rfl ?_)
  · have h1 := nx g hi h
    refine S_begin 9 (tk l i) ?_
    refine Eq.subst (motive := fun r => Sim l eV _ r) (run_call _ _ _).symm ?_
    refine S_E (H _ (by omega) h1).expr (fun _ _ _ _ _ _ => rfl) fun a j hj => ?_
    have hf := pw_ok g h1 hj
    refine S_want hl.len hf.2 wThen (fun _ _ _ _ _ _ => rfl) fun h => ?_
    have h2 := nx g hf.2 h
    refine Eq.subst (motive := fun r => Sim l eV _ r) (run_call _ _ _).symm ?_
    refine S_E (H _ (by omega) h2).expr (fun _ _ _ _ _ _ => rfl) fun b j2 hj2 => ?_
    have hf2 := pw_ok g h2 hj2
    refine S_want hl.len hf2.2 wElse (fun _ _ _ _ _ _ => rfl) fun h => ?_
    have h3 := nx g hf2.2 h
    refine Eq.subst (motive := fun r => Sim l eV _ r) (run_call _ _ _).symm ?_
    refine S_E (H _ (by omega) h3).expr (fun _ _ _ _ _ _ => rfl) fun c j3 hj3 => ?_
    exact S_ret (E.rows_three a b c).symm rfl rfl fun _ _ _ => rfl
  refine S_take hl.len hi wCase (fun h => Sim.yes rfl ?_) (fun h => Sim.no rfl ?_)
  · have h1 := nx g hi h
    refine S_begin 10 (tk l i) ?_
    refine Eq.subst (motive := fun r => Sim l eV _ r) (run_call _ _ _).symm ?_
    refine S_E (H _ (by omega) h1).expr (fun _ _ _ _ _ _ => rfl) fun a j hj => ?_
    have hf := pw_ok g h1 hj
    rw [← E.rows_one]
    exact Sim.diag (case_ok hl j hf.2 (fun j' h1 h2 => H j' (by omega) h2) (tk l i) a _ _ _ _ _ _ _)
  refine S_take hl.len hi wObserve (fun h => Sim.yes rfl ?_) (fun h => Sim.no rfl ?_)
  · have h1 := nx g hi h
    refine S_begin 11 (tk l i) ?_
    refine Eq.subst (motive := fun r => Sim l eV _ r) (run_call _ _ _).symm ?_
    refine S_E (H _ (by omega) h1).expr (fun _ _ _ _ _ _ => rfl) fun a j hj => ?_
    have hf := pw_ok g h1 hj
    refine S_want hl.len hf.2 wIn (fun _ _ _ _ _ _ => rfl) fun h => ?_
    have h2 := nx g hf.2 h
    refine Eq.subst (motive := fun r => Sim l eV _ r) (run_call _ _ _).symm ?_
    refine S_E (H _ (by omega) h2).expr (fun _ _ _ _ _ _ => rfl) fun b j2 hj2 => ?_
    exact S_ret (E.rows_two a b).symm rfl rfl fun _ _ _ => rfl
  refine S_take hl.len hi wScore (fun h => Sim.yes rfl ?_) (fun h => Sim.no rfl ?_)
  · have h1 := nx g hi h
    refine S_begin 12 (tk l i) ?_
    refine Eq.subst (motive := fun r => Sim l eV _ r) (run_call _ _ _).symm ?_
    refine S_O (share_ok hl _ h1) (fun _ _ _ _ _ _ => rfl) fun a j hj => ?_
    have hf := pw_ok g h1 hj
    refine S_want hl.len hf.2 wIn (fun _ _ _ _ _ _ => rfl) fun h => ?_
    have h2 := nx g hf.2 h
    refine Eq.subst (motive := fun r => Sim l eV _ r) (run_call _ _ _).symm ?_
    refine S_E (H _ (by omega) h2).expr (fun _ _ _ _ _ _ => rfl) fun b j2 hj2 => ?_
    exact S_ret (E.rows_one b).symm rfl rfl fun _ _ _ => rfl
  simp only [q24_6_eq]
  refine Eq.subst (motive := fun r => Sim l eV _ r) (run_call _ _ _).symm ?_
  exact S_E h0 (fun _ _ _ _ _ _ => rfl) fun a j hj => Sim.ret fun _ _ _ => rfl

/-! ### The signs ahead, and the levels -/
theorem unary_ok (hl : Few l) (i : Nat) (hi : i < l.length) (H : After l i) (h0 : Sim l eV (fun _ k _ => Ak k false 94 [V.one (X.ptr 0 0)] (rds l i)) (pw l .atom i)) :
    Sim l eV (fun _ k _ => Ak k false 81 [V.one (X.ptr 0 0)] (rds l i)) (pw l .unary i) := by
  have g := hl.good
  rw [pw_eq g _ i hi]
  refine fun hr => call81 _ _ ((?_ : Sim l eV (fun _ k n => e81 (Ak k) n (toks l) (Int.ofNat i)) (run (pw l) l (body .unary) i)) hr)
  clear hr
  simp only [e81_eq, q81_0_eq]
  refine S_token hi ?_
  refine S_take hl.len hi wNot (fun h => Sim.yes rfl ?_) (fun h => Sim.no rfl ?_)
  · have h1 := nx g hi h
    refine S_begin 7 (tk l i) ?_
    refine Eq.subst (motive := fun r => Sim l eV _ r) (run_call _ _ _).symm ?_
    refine S_E (H _ (by omega) h1).unary (fun _ _ _ _ _ _ => rfl) fun a j hj => ?_
    exact S_ret (E.rows_one a).symm rfl rfl fun _ _ _ => rfl
  refine S_take hl.len hi wMi (fun h => Sim.yes rfl ?_) (fun h => Sim.no rfl ?_)
  · have h1 := nx g hi h
    refine S_begin 7 (tk l i) ?_
    refine Eq.subst (motive := fun r => Sim l eV _ r) (run_call _ _ _).symm ?_
    refine S_E (H _ (by omega) h1).unary (fun _ _ _ _ _ _ => rfl) fun a j hj => ?_
    exact S_ret (E.rows_one a).symm rfl rfl fun _ _ _ => rfl
  refine Eq.subst (motive := fun r => Sim l eV _ r) (run_call _ _ _).symm ?_
  exact S_E h0 (fun _ _ _ _ _ _ => rfl) fun a j hj => Sim.ret fun _ _ _ => rfl
theorem body_level (n : Nat) (hn : n ≤ 5) : body (.level n) = .call (.level (n + 1)) fun l => .call (.loop n l) .ret := by
  match n, hn with
  | 0, _ | 1, _ | 2, _ | 3, _ | 4, _ | 5, _ => rfl
theorem level_ok (hl : Few l) (n : Nat) (hn : n ≤ 5) (i : Nat) (hi : i < l.length) (H : After l i)
    (h0 : Sim l eV (fun _ k _ => Ak k false 56 [V.one (X.ptr 0 0), V.one (X.d (D.int IntKind.i64 (Int.ofNat (n + 1))))] (rds l i)) (pw l (.level (n + 1)) i)) :
    Sim l eV (fun _ k _ => Ak k false 56 [V.one (X.ptr 0 0), V.one (X.d (D.int IntKind.i64 (Int.ofNat n)))] (rds l i)) (pw l (.level n) i) := by
  have g := hl.good
  rw [pw_eq g _ i hi, body_level n hn]
  refine fun hr => call56 _ _ _ ((?_ : Sim l eV (fun _ k n' => e56 (Ak k) n' (Int.ofNat n) (toks l) (Int.ofNat i)) (run (pw l) l (.call (.level (n + 1)) fun l => .call (.loop n l) .ret) i)) hr)
  clear hr
  simp only [e56_eq, q56_0_eq]
  refine Sim.no (by rw [beq_eq_false_iff_ne]; simp only [Int.ofNat_eq_natCast]; omega) ?_
  rw [wrap_up n (by omega)]
  refine Eq.subst (motive := fun r => Sim l eV _ r) (run_call _ _ _).symm ?_
  refine S_E h0 (fun _ _ _ _ _ _ => rfl) fun a j hj => ?_
  have hf := pw_ok g hi hj
  exact Sim.diag (loop_ok hl n hn _ j hf.2 (Nat.le_refl _) (fun j' h1 h2 => H j' (by omega) h2) a _ _ _ _ _ _ _).1
theorem level6_ok (hl : Few l) (i : Nat) (hi : i < l.length)
    (h0 : Sim l eV (fun _ k _ => Ak k false 81 [V.one (X.ptr 0 0)] (rds l i)) (pw l .unary i)) :
    Sim l eV (fun _ k _ => Ak k false 56 [V.one (X.ptr 0 0), V.one (X.d (D.int IntKind.i64 (Int.ofNat 6)))] (rds l i)) (pw l (.level 6) i) := by
  have g := hl.good
  rw [pw_eq g _ i hi]
  refine fun hr => call56 _ _ _ ((?_ : Sim l eV (fun _ k n' => e56 (Ak k) n' (Int.ofNat 6) (toks l) (Int.ofNat i)) (run (pw l) l (.call .unary .ret) i)) hr)
  clear hr
  simp only [e56_eq]
  refine Sim.yes rfl ?_
  refine Eq.subst (motive := fun r => Sim l eV _ r) (run_call _ _ _).symm ?_
  exact S_E h0 (fun _ _ _ _ _ _ => rfl) fun a j hj => Sim.ret fun _ _ _ => rfl
end
end Go.Proofs.Ytbmcafehpgimfaa.Ps
namespace Go.Proofs.Ytbmcafehpgimfaa.Ps
set_option linter.unusedVariables false
set_option linter.unusedSimpArgs false
open Go Go.RowKit Px
open Lx (Tok)

section
variable {l : List Tok} {P : (q : NT) → Nat → Rs (Ret q)}
theorem S_knd {α : Type} {enc : α → V} (κ : Int) {i : Nat} {F G : Nat → Nat → Nat → Option Out} {y n : Pm α} (hy : (tk l i).kind = κ → Sim l enc F (run P l y i)) (hn : (tk l i).kind ≠ κ → Sim l enc G (run P l n i)) :
    Sim l enc (fun m k n' => bif (tk l i).kind == κ then F m k n' else G m k n') (run P l (.knd κ y n) i) := by
  unfold run
  cases h : (tk l i).kind == κ with
  | true => exact hy (by simpa using h)
  | false => exact hn (by simpa using h)
theorem ints_one (a : Int) : ints [a] = [[D.int IntKind.i64 a]] := rfl
theorem ints_app (a : List Int) (b : Int) : ints (a ++ [b]) = ints a ++ [[D.int IntKind.i64 b]] := by unfold ints; rw [List.map_append]; rfl
theorem ints_len (a : List Int) : (ints a).length = a.length := List.length_map ..
/-! ### The tuple's rest -/
theorem tuple_ok (hl : Few l) (t : Tok) (z' : List (List D)) (z3 x2 x3 : Int) (s4 : ByteArray) (x5 x6 : Int) : ∀ (d i : Nat), i < l.length → l.length - i ≤ d → After l i → ∀ acc : List E, acc.length ≤ i →
    Sim l eV (fun m k n => l94_0 m (Ak k) n z' z3 (toks l) (Int.ofNat i) x2 x3 s4 x5 x6 5 0 (bx []) (E.rows acc) t.line t.col) (run (pw l) l (.call (.rest wRp) fun r => .ret (E.mk 5 0 [] [] [] (acc ++ r) t.line t.col)) i)
  | 0, i, hi, h, _, _, _ => by omega
  | d + 1, i, hi, h, H, acc, ha => by
    have g := hl.good
    rw [run_open g _ _ i hi]
    refine Sim.step ?_
    simp only [l94_0_eq]
    refine S_take hl.len hi wCm (fun h => Sim.yes rfl ?_) (fun h => Sim.no rfl ?_)
    · have h1 := nx g hi h
      simp only [q94_2_eq]
      refine Eq.subst (motive := fun r => Sim l eV _ r) (run_call _ _ _).symm ?_
      refine S_E (H _ (by omega) h1).expr (fun _ _ _ _ _ _ => rfl) fun a j hj => ?_
      have hf := pw_ok g h1 hj
      refine Sim.yes (by rw [E.rows_len]; exact roomy _ _ (by have := hl.len; omega) (by omega)) ?_
      rw [← E.rows_app]
      have := tuple_ok hl t z' z3 x2 x3 s4 x5 x6 d j hf.2 (by omega) (fun j' h1 h2 => H j' (by omega) h2) (acc ++ [a]) (by rw [List.length_append, List.length_singleton]; omega)
      simp only [List.append_assoc, List.singleton_append] at this
      exact this
    · simp only [q94_3_eq]
      refine S_want hl.len hi wRp (fun _ _ _ _ _ _ => rfl) fun h2 => ?_
      exact S_ret (by rw [List.append_nil]) rfl rfl fun _ _ _ => rfl
/-! ### The choices of a pick -/
theorem picks_ok (hl : Few l) (t : Tok) (z' : List (List D)) (z3 x2 x3 : Int) (s4 : ByteArray) (x5 x6 : Int) : ∀ (d i : Nat), i < l.length → l.length - i ≤ d → After l i → ∀ (os : List Int) (acc : List E), acc.length ≤ i → os.length ≤ i →
    Sim l eV (fun m k n => l94_1_v1 m (Ak k) n z' z3 (toks l) (Int.ofNat i) x2 x3 s4 x5 x6 13 0 (bx []) (ints os) (E.rows acc) t.line t.col) (run (pw l) l (.call .pick fun p => .ret (E.mk 13 0 [] [] (os ++ p.1) (acc ++ p.2) t.line t.col)) i)
  | 0, i, hi, h, _, _, _, _, _ => by omega
  | d + 1, i, hi, h, H, os, acc, ha, ho => by
    have g := hl.good
    rw [run_open g _ _ i hi]
    refine Sim.step ?_
    simp only [l94_1_v1_eq]
    refine S_kind hl.len hi 3 (fun _ _ _ _ _ _ => rfl) fun h1 => ?_
    have h2 := nxk g hi h1 (by decide)
    refine Sim.yes (by rw [ints_len]; exact roomy _ _ (by have := hl.len; omega) (by omega)) ?_
    refine S_want hl.len h2 wCl (fun _ _ _ _ _ _ => rfl) fun h3 => ?_
    have h4 := nx g h2 h3
    refine Eq.subst (motive := fun r => Sim l eV _ r) (run_call _ _ _).symm ?_
    refine S_E (H _ (by omega) h4).expr (fun _ _ _ _ _ _ => rfl) fun a j hj => ?_
    have hf := pw_ok g h4 hj
    refine Sim.yes (by rw [E.rows_len]; exact roomy _ _ (by have := hl.len; omega) (by omega)) ?_
    refine S_take hl.len hf.2 wCm (fun h => Sim.no rfl ?_) (fun h => Sim.yes rfl ?_)
    · have h5 := nx g hf.2 h
      rw [← E.rows_app, ← ints_app]
      have := picks_ok hl t z' z3 x2 x3 s4 x5 x6 d (j + 1) h5 (by omega) (fun j' h1 h2 => H j' (by omega) h2) (os ++ [(tk l i).n]) (acc ++ [a]) (by rw [List.length_append, List.length_singleton]; omega) (by rw [List.length_append, List.length_singleton]; omega)
      simp only [List.append_assoc, List.singleton_append] at this
      exact this
    · refine S_want hl.len hf.2 wRc (fun _ _ _ _ _ _ => rfl) fun h2 => ?_
      exact S_ret (E.rows_app acc a).symm rfl (ints_app os _).symm fun _ _ _ => rfl
theorem pick_ok (hl : Few l) (t : Tok) (z' : List (List D)) (z3 x2 x3 : Int) (s4 : ByteArray) (x5 x6 : Int) (i : Nat) (hi : i < l.length) (H : After l i) :
    Sim l eV (fun m k n => l94_1 m (Ak k) n z' z3 (toks l) (Int.ofNat i) x2 x3 s4 x5 x6 13 0 (bx []) t.line t.col) (run (pw l) l (.call .pick fun p => .ret (E.mk 13 0 [] [] p.1 p.2 t.line t.col)) i) := by
  have g := hl.good
  rw [run_open g _ _ i hi]
  refine Sim.step ?_
  simp only [l94_1_eq]
  refine S_kind hl.len hi 3 (fun _ _ _ _ _ _ => rfl) fun h1 => ?_
  have h2 := nxk g hi h1 (by decide)
  refine S_want hl.len h2 wCl (fun _ _ _ _ _ _ => rfl) fun h3 => ?_
  have h4 := nx g h2 h3
  refine Eq.subst (motive := fun r => Sim l eV _ r) (run_call _ _ _).symm ?_
  refine S_E (H _ (by omega) h4).expr (fun _ _ _ _ _ _ => rfl) fun a j hj => ?_
  have hf := pw_ok g h4 hj
  refine S_take hl.len hf.2 wCm (fun h => Sim.no rfl ?_) (fun h => Sim.yes rfl ?_)
  · have h5 := nx g hf.2 h
    rw [← E.rows_one, ← ints_one]
    exact picks_ok hl t z' z3 x2 x3 s4 x5 x6 _ (j + 1) h5 (Nat.le_refl _) (fun j' h1 h2 => H j' (by omega) h2) [(tk l i).n] [a] (by simp only [List.length_cons, List.length_nil]; omega) (by simp only [List.length_cons, List.length_nil]; omega)
  · refine S_want hl.len hf.2 wRc (fun _ _ _ _ _ _ => rfl) fun h2 => ?_
    exact S_ret (E.rows_one a).symm rfl rfl fun _ _ _ => rfl
/-! ### An atom -/
theorem atom_ok (hl : Few l) (hn : Nums l) (i : Nat) (hi : i < l.length) (H : After l i) :
    Sim l eV (fun _ k _ => Ak k false 94 [V.one (X.ptr 0 0)] (rds l i)) (pw l .atom i) := by
  have g := hl.good
  rw [pw_eq g _ i hi]
  refine fun hr => call94 _ _ ((?_ : Sim l eV (fun _ k n => e94 (Ak k) n (toks l) (Int.ofNat i)) (run (pw l) l (body .atom) i)) hr)
  clear hr
  simp only [e94_eq]
  refine S_token hi ?_
  refine S_knd 3 (fun h => ?_) (fun h => ?_)
  · have h1 := nxk g hi h (by decide)
    refine S_begin 1 (tk l i) ?_
    rw [up hl.len hi]
    exact S_ret (P := pw l) E.rows_nil.symm rfl rfl fun _ _ _ => rfl
  refine S_knd 1 (fun h => ?_) (fun h => ?_)
  · have h1 := nxk g hi h (by decide)
    refine S_begin 3 (tk l i) ?_
    rw [up hl.len hi]
    refine S_take hl.len h1 wLp (fun h => Sim.yes rfl ?_) (fun h => Sim.no rfl ?_)
    · have h2 := nx g h1 h
      refine Eq.subst (motive := fun r => Sim l eV _ r) (run_call _ _ _).symm ?_
      refine S_L ((H _ (by omega) h2).list wRp) (fun _ _ _ _ _ _ => rfl) fun a j hj => ?_
      simp only [q94_0_eq]
      exact S_ret (P := pw l) rfl rfl rfl fun _ _ _ => rfl
    · simp only [q94_0_v1_eq]
      exact S_ret (P := pw l) E.rows_nil.symm rfl rfl fun _ _ _ => rfl
  refine S_take hl.len hi wTrue (fun h => Sim.yes rfl ?_) (fun h => Sim.no rfl ?_)
  · refine S_begin 2 (tk l i) ?_
    exact S_ret (P := pw l) E.rows_nil.symm rfl rfl fun _ _ _ => rfl
  refine S_take hl.len hi wFalse (fun h => Sim.yes rfl ?_) (fun h => Sim.no rfl ?_)
  · refine S_begin 2 (tk l i) ?_
    exact S_ret (P := pw l) E.rows_nil.symm rfl rfl fun _ _ _ => rfl
  refine S_take hl.len hi wLp (fun h => Sim.yes rfl ?_) (fun h => Sim.no rfl ?_)
  · have h1 := nx g hi h
    refine Eq.subst (motive := fun r => Sim l eV _ r) (run_call _ _ _).symm ?_
    refine S_E (H _ (by omega) h1).expr (fun _ _ _ _ _ _ => rfl) fun a j hj => ?_
    have hf := pw_ok g h1 hj
    refine S_take hl.len hf.2 wRp (fun h => Sim.yes rfl ?_) (fun h => Sim.no rfl ?_)
    · exact Sim.ret fun _ _ _ => rfl
    simp only [q94_1_eq]
    refine S_begin 5 (tk l i) ?_
    refine S_want hl.len hf.2 wCm (fun _ _ _ _ _ _ => rfl) fun h => ?_
    have h2 := nx g hf.2 h
    refine Eq.subst (motive := fun r => Sim l eV _ r) (run_call _ _ _).symm ?_
    refine S_E (H _ (by omega) h2).expr (fun _ _ _ _ _ _ => rfl) fun b j2 hj2 => ?_
    have hf2 := pw_ok g h2 hj2
    rw [← E.rows_two]
    exact Sim.diag (tuple_ok hl (tk l i) _ _ _ _ _ _ _ _ j2 hf2.2 (Nat.le_refl _) (fun j' h1 h2 => H j' (by omega) h2) [a, b] (by simp only [List.length_cons, List.length_nil]; omega))
  refine S_take hl.len hi wLb (fun h => Sim.yes rfl ?_) (fun h => Sim.no rfl ?_)
  · have h1 := nx g hi h
    refine S_begin 6 (tk l i) ?_
    refine Eq.subst (motive := fun r => Sim l eV _ r) (run_call _ _ _).symm ?_
    refine S_L ((H _ (by omega) h1).list wRb) (fun _ _ _ _ _ _ => rfl) fun a j hj => ?_
    exact S_ret (P := pw l) rfl rfl rfl fun _ _ _ => rfl
  refine S_take hl.len hi wPick (fun h => Sim.yes rfl ?_) (fun h => Sim.no rfl ?_)
  · have h1 := nx g hi h
    refine S_begin 13 (tk l i) ?_
    refine S_want hl.len h1 wLc (fun _ _ _ _ _ _ => rfl) fun h => ?_
    have h2 := nx g h1 h
    exact Sim.diag (pick_ok hl (tk l i) _ _ _ _ _ _ _ _ h2 (fun j' h1 h2 => H j' (by omega) h2))
  refine S_take hl.len hi wFlip (fun h => Sim.yes rfl ?_) (fun h => Sim.no rfl ?_)
  · have h1 := nx g hi h
    refine S_begin 14 (tk l i) ?_
    refine S_want hl.len h1 wLp (fun _ _ _ _ _ _ => rfl) fun h => ?_
    have h2 := nx g h1 h
    refine Eq.subst (motive := fun r => Sim l eV _ r) (run_call _ _ _).symm ?_
    refine S_O (share_ok hl _ h2) (fun _ _ _ _ _ _ => rfl) fun a j hj => ?_
    have hf := pw_ok g h2 hj
    refine S_want hl.len hf.2 wRp (fun _ _ _ _ _ _ => rfl) fun h => ?_
    exact S_ret (P := pw l) E.rows_nil.symm rfl rfl fun _ _ _ => rfl
  refine S_take hl.len hi wRange (fun h => Sim.yes rfl ?_) (fun h => Sim.no rfl ?_)
  · have h1 := nx g hi h
    refine S_begin 15 (tk l i) ?_
    refine S_want hl.len h1 wLp (fun _ _ _ _ _ _ => rfl) fun h => ?_
    have h2 := nx g h1 h
    refine Eq.subst (motive := fun r => Sim l eV _ r) (run_call _ _ _).symm ?_
    refine S_I (bound_ok hl hn _ h2) (fun _ _ _ _ _ _ => rfl) fun a j hj => ?_
    have hf := pw_ok g h2 hj
    refine S_want hl.len hf.2 wCm (fun _ _ _ _ _ _ => rfl) fun h => ?_
    have h3 := nx g hf.2 h
    refine Eq.subst (motive := fun r => Sim l eV _ r) (run_call _ _ _).symm ?_
    refine S_I (bound_ok hl hn _ h3) (fun _ _ _ _ _ _ => rfl) fun b j2 hj2 => ?_
    have hf2 := pw_ok g h3 hj2
    refine S_want hl.len hf2.2 wRp (fun _ _ _ _ _ _ => rfl) fun h => ?_
    exact S_ret (P := pw l) E.rows_nil.symm rfl rfl fun _ _ _ => rfl
  simp only [q94_4_eq]
  exact S_fail hi fun _ _ _ _ _ _ => rfl
/-! ### All of them -/
theorem all_ok (hl : Few l) (hn : Nums l) : ∀ (d i : Nat), i < l.length → l.length - i ≤ d → AllAt l i
  | 0, i, hi, h => by omega
  | d + 1, i, hi, h => by
    have H : After l i := fun j h1 h2 => all_ok hl hn d j h2 (by omega)
    have ha := atom_ok hl hn i hi H
    have hu := unary_ok hl i hi H ha
    have h6 := level6_ok hl i hi hu
    have h5 := level_ok hl 5 (by decide) i hi H h6
    have h4 := level_ok hl 4 (by decide) i hi H h5
    have h3 := level_ok hl 3 (by decide) i hi H h4
    have h2 := level_ok hl 2 (by decide) i hi H h3
    have h1 := level_ok hl 1 (by decide) i hi H h2
    have h0 := level_ok hl 0 (by decide) i hi H h1
    have he := expr_ok hl i hi H h0
    refine ⟨he, fun n hn => ?_, hu, ha, fun e => list_ok hl e i hi H he fun a j hj => pw_eat (q := .expr) trivial hj⟩
    match n, hn with
    | 0, _ => exact h0
    | 1, _ => exact h1
    | 2, _ => exact h2
    | 3, _ => exact h3
    | 4, _ => exact h4
    | 5, _ => exact h5
    | 6, _ => exact h6
theorem exprs_ok (hl : Few l) (hn : Nums l) (i : Nat) (hi : i < l.length) : Sim l eV (fun _ k _ => Ak k false 24 [V.one (X.ptr 0 0)] (rds l i)) (pw l .expr i) := (all_ok hl hn _ i hi (Nat.le_refl _)).expr
end
end Go.Proofs.Ytbmcafehpgimfaa.Ps
namespace Go.Proofs.Ytbmcafehpgimfaa.Ps
set_option linter.unusedVariables false
set_option linter.unusedSimpArgs false
open Go Go.RowKit Px
open Lx (Tok)
open Pm (want kind)

def fnV (f : Fnc) : V := V.agg [X.d (D.str (bx f.name)), X.d (D.list 5 (Fld.rows f.params)), X.d (D.int IntKind.i64 f.res.k), X.d (D.list 2 (T.rows f.res.l)), X.d (D.int IntKind.i64 f.body.k), X.d (D.int IntKind.i64 f.body.n), X.d (D.str (bx f.body.name)), X.d (D.list 1 (strs f.body.names)), X.d (D.list 1 (ints f.body.odds)), X.d (D.list 8 (E.rows f.body.kids)), X.d (D.int IntKind.i64 f.body.line), X.d (D.int IntKind.i64 f.body.col), X.d (D.int IntKind.i64 f.line), X.d (D.int IntKind.i64 f.col)]
def pX (p : Pg) : List X := [X.d (D.list 5 (Fld.rows p.inputs)), X.d (D.list 14 (Fnc.rows p.funs)), X.d (D.int IntKind.i64 p.query.k), X.d (D.int IntKind.i64 p.query.n), X.d (D.str (bx p.query.name)), X.d (D.list 1 (strs p.query.names)), X.d (D.list 1 (ints p.query.odds)), X.d (D.list 8 (E.rows p.query.kids)), X.d (D.int IntKind.i64 p.query.line), X.d (D.int IntKind.i64 p.query.col)]
def pV (p : Pg) : V := V.agg (pX p)
theorem Fld.rows_app (a : List Fld) (b : Fld) : Fld.rows (a ++ [b]) = Fld.rows a ++ [[D.str (bx b.name), D.int IntKind.i64 b.typ.k, D.list 2 (T.rows b.typ.l), D.int IntKind.i64 b.line, D.int IntKind.i64 b.col]] := by
  unfold Fld.rows; rw [List.map_append]; rfl
theorem Fld.rows_len (a : List Fld) : (Fld.rows a).length = a.length := List.length_map ..
theorem Fld.rows_one (b : Fld) : Fld.rows [b] = [[D.str (bx b.name), D.int IntKind.i64 b.typ.k, D.list 2 (T.rows b.typ.l), D.int IntKind.i64 b.line, D.int IntKind.i64 b.col]] := rfl
theorem Fnc.row_eq (f : Fnc) : Fnc.row f = [D.str (bx f.name), D.list 5 (Fld.rows f.params), D.int IntKind.i64 f.res.k, D.list 2 (T.rows f.res.l), D.int IntKind.i64 f.body.k, D.int IntKind.i64 f.body.n, D.str (bx f.body.name), D.list 1 (strs f.body.names), D.list 1 (ints f.body.odds), D.list 8 (E.rows f.body.kids), D.int IntKind.i64 f.body.line, D.int IntKind.i64 f.body.col, D.int IntKind.i64 f.line, D.int IntKind.i64 f.col] := by
  unfold Fnc.row; rw [E.row_eq]; rfl
theorem Fnc.rows_app (a : List Fnc) (f : Fnc) : Fnc.rows (a ++ [f]) = Fnc.rows a ++ [[D.str (bx f.name), D.list 5 (Fld.rows f.params), D.int IntKind.i64 f.res.k, D.list 2 (T.rows f.res.l), D.int IntKind.i64 f.body.k, D.int IntKind.i64 f.body.n, D.str (bx f.body.name), D.list 1 (strs f.body.names), D.list 1 (ints f.body.odds), D.list 8 (E.rows f.body.kids), D.int IntKind.i64 f.body.line, D.int IntKind.i64 f.body.col, D.int IntKind.i64 f.line, D.int IntKind.i64 f.col]] := by
  unfold Fnc.rows; rw [List.map_append, List.map_singleton, Fnc.row_eq]
theorem Fnc.rows_len (a : List Fnc) : (Fnc.rows a).length = a.length := List.length_map ..
section
variable {l : List Tok}
theorem S_Fn {α : Type} {enc : α → V} {f : FuncId} {args : List V} {rows : List (List Lf × List X)} {r : Rs Fnc} {g : Fnc → Nat → Rs α} {K : Nat → Nat → Nat → ByteArray → List (List D) → Int → List (List D) → Int → Int → ByteArray → List (List D) → List (List D) → List (List D) → Int → Int → Int → Int → List (List D) → Int → Option Out} {Q : Nat → Nat → Nat → D → List (List D) → Int → Option Out}
    (h : Sim l fnV (fun _ k _ => Ak k false f args rows) r) (hp : PanOn Q)
    (hy : ∀ a j, r = .ok a j → Sim l enc (fun m k n => K m k n (bx a.name) (Fld.rows a.params) a.res.k (T.rows a.res.l) a.body.k a.body.n (bx a.body.name) (strs a.body.names) (ints a.body.odds) (E.rows a.body.kids) a.body.line a.body.col a.line a.col (toks l) (Int.ofNat j)) (g a j)) :
    Sim l enc (fun m k n => r_a14SL5IL2IISL1L1L8IIII_L5I (Ak k false f args rows) (K m k n) (Q m k n)) (thenR r g) := by
  cases r with
  | ok a j => exact fun hr => v_a14SL5IL2IISL1L1L8IIII_L5I (h (fun q => by cases q)) (hy a j rfl hr)
  | no j => exact fun hr => u_a14SL5IL2IISL1L1L8IIII_L5I (h (fun q => by cases q)) (Ev.of fun m k n => hp m k n _ _ _)
  | out => exact fun hr => absurd rfl hr
theorem types_ok (hl : Few l) (i : Nat) (hi : i < l.length) : Sim l tV (fun _ k _ => Ak k false 90 [V.one (X.ptr 0 0)] (rds l i)) (pw l .typ i) := (typ_ok hl _ i hi (Nat.lt_succ_self _)).1
theorem field_ok (hl : Few l) (i : Nat) (hi : i < l.length) : Sim l fV (fun _ k _ => Ak k false 72 [V.one (X.ptr 0 0)] (rds l i)) (pw l .field i) := by
  have g := hl.good
  rw [pw_eq g _ i hi]
  refine fun hr => call72 _ _ ((?_ : Sim l fV (fun _ k n => e72 (Ak k) n (toks l) (Int.ofNat i)) (run (pw l) l (body .field) i)) hr)
  clear hr
  simp only [e72_eq]
  refine S_kind hl.len hi 1 (fun _ _ _ _ _ _ => rfl) fun h => ?_
  have h1 := nxk g hi h (by decide)
  refine S_want hl.len h1 wCl (fun _ _ _ _ _ _ => rfl) fun h => ?_
  have h2 := nx g h1 h
  refine Eq.subst (motive := fun r => Sim l fV _ r) (run_call _ _ _).symm ?_
  exact S_T (types_ok hl _ h2) (fun _ _ _ _ _ _ => rfl) fun a j hj => Sim.ret fun _ _ _ => rfl
/-! ### Functions -/
theorem is_step {α : Type} {enc : α → V} (hl : Few l) {i : Nat} (hi : i < l.length) (s : List UInt8) {K : Nat → Nat → Nat → Bool → List (List D) → Int → Option Out} {Q : Nat → Nat → Nat → D → List (List D) → Int → Option Out} {r : Rs α}
    (h : Sim l enc (fun m k n => K m k n (isT s (tk l i)) (toks l) (Int.ofNat i)) r) :
    Sim l enc (fun m k n => r_oB_L5I (Ak k false 80 [V.one (X.ptr 0 0), V.one (X.d (D.str (bx s)))] (rds l i)) (K m k n) (Q m k n)) r := fun hr => v_oB_L5I (C_is hi s) (h hr)
def heads (t : Tok) (ps : List Fld) : Pm Fnc := want wRp (funRest t ps)
theorem head_ok (hl : Few l) (hn : Nums l) (i : Nat) (hi : i < l.length) (t : Tok) (ps : List Fld) (z' : List (List D)) (z3 : Int) (s2 : ByteArray) (x3 x4 x5 : Int) (s6 : ByteArray) (x7 x8 x9 x10 x13 x14 x15 : Int) (s16 : ByteArray) (x17 x18 : Int) :
    Sim l fnV (fun _ k n => q73_1_v1 (Ak k) n z' z3 (toks l) (Int.ofNat i) s2 x3 x4 x5 s6 x7 x8 x9 x10 (bx t.text) (Fld.rows ps) x13 x14 x15 s16 x17 x18 t.line t.col) (run (pw l) l (heads t ps) i) := by
  have g := hl.good
  simp only [q73_1_v1_eq]
  unfold heads funRest
  refine S_want hl.len hi wRp (fun _ _ _ _ _ _ => rfl) fun h => ?_
  have h1 := nx g hi h
  refine S_want hl.len h1 wCl (fun _ _ _ _ _ _ => rfl) fun h => ?_
  have h2 := nx g h1 h
  refine Eq.subst (motive := fun r => Sim l fnV _ r) (run_call _ _ _).symm ?_
  refine S_T (types_ok hl _ h2) (fun _ _ _ _ _ _ => rfl) fun a j hj => ?_
  have hf := pw_ok g h2 hj
  refine S_want hl.len hf.2 wEq (fun _ _ _ _ _ _ => rfl) fun h => ?_
  have h3 := nx g hf.2 h
  refine Eq.subst (motive := fun r => Sim l fnV _ r) (run_call _ _ _).symm ?_
  refine S_E (exprs_ok hl hn _ h3) (fun _ _ _ _ _ _ => rfl) fun b j2 hj2 => ?_
  have hf2 := pw_ok g h3 hj2
  refine S_want hl.len hf2.2 wSc (fun _ _ _ _ _ _ => rfl) fun h => ?_
  exact Sim.ret (P := pw l) fun _ _ _ => rfl
theorem head0_eq (Γ : Bool → SemL) (n1 : Nat) (z2 : List (List D)) (z3 : Int) (r0 : List (List D)) (x1 : Int) (s2 : ByteArray) (x3 x4 x5 : Int) (s6 : ByteArray) (x7 x8 x9 x10 : Int) (s11 : ByteArray) (x12 x13 x14 : Int) (s15 : ByteArray) (x16 x17 x18 x19 : Int) :
    q73_1 Γ n1 z2 z3 r0 x1 s2 x3 x4 x5 s6 x7 x8 x9 x10 s11 x12 x13 x14 s15 x16 x17 x18 x19 = q73_1_v1 Γ n1 z2 z3 r0 x1 s2 x3 x4 x5 s6 x7 x8 x9 x10 s11 [] x12 x13 x14 s15 x16 x17 x18 x19 := by
  rw [q73_1_eq, q73_1_v1_eq]
theorem params_ok (hl : Few l) (hn : Nums l) (t : Tok) (z' : List (List D)) (z3 : Int) (s2 : ByteArray) (x3 x4 x5 : Int) (s6 : ByteArray) (x7 x8 x9 x10 x13 x14 x15 : Int) (s16 : ByteArray) (x17 x18 : Int) : ∀ (d i : Nat), i < l.length → l.length - i ≤ d → ∀ acc : List Fld, acc.length ≤ i →
    Sim l fnV (fun m k n => l73_0 m (Ak k) n z' z3 (toks l) (Int.ofNat i) s2 x3 x4 x5 s6 x7 x8 x9 x10 (bx t.text) (Fld.rows acc) x13 x14 x15 s16 x17 x18 t.line t.col) (run (pw l) l (.call .fields fun r => funRest t (acc ++ r)) i)
  | 0, i, hi, h, _, _ => by omega
  | d + 1, i, hi, h, acc, ha => by
    have g := hl.good
    rw [run_open g _ _ i hi]
    refine Sim.step ?_
    simp only [l73_0_eq]
    refine S_take hl.len hi wCm (fun h => Sim.yes rfl ?_) (fun h => Sim.no rfl ?_)
    · have h1 := nx g hi h
      simp only [q73_0_eq]
      refine Eq.subst (motive := fun r => Sim l fnV _ r) (run_call _ _ _).symm ?_
      refine S_F (field_ok hl _ h1) (fun _ _ _ _ _ _ => rfl) fun a j hj => ?_
      have hf := pw_ok g h1 hj
      refine Sim.yes (by rw [Fld.rows_len]; exact roomy _ _ (by have := hl.len; omega) (by omega)) ?_
      rw [← Fld.rows_app]
      have := params_ok hl hn t z' z3 s2 x3 x4 x5 s6 x7 x8 x9 x10 x13 x14 x15 s16 x17 x18 d j hf.2 (by omega) (acc ++ [a]) (by rw [List.length_append, List.length_singleton]; omega)
      simp only [List.append_assoc, List.singleton_append] at this
      exact this
    · have := head_ok hl hn i hi t acc z' z3 s2 x3 x4 x5 s6 x7 x8 x9 x10 x13 x14 x15 s16 x17 x18
      unfold heads at this
      show Sim l fnV _ (run (pw l) l (want wRp (funRest t (acc ++ []))) i)
      rw [List.append_nil]
      exact this
theorem fun_ok (hl : Few l) (hn : Nums l) (i : Nat) (hi : i < l.length) : Sim l fnV (fun _ k _ => Ak k false 73 [V.one (X.ptr 0 0)] (rds l i)) (pw l .fun_ i) := by
  have g := hl.good
  rw [pw_eq g _ i hi]
  refine fun hr => call73 _ _ ((?_ : Sim l fnV (fun _ k n => e73 (Ak k) n (toks l) (Int.ofNat i)) (run (pw l) l (body .fun_) i)) hr)
  clear hr
  simp only [e73_eq]
  refine S_kind hl.len hi 1 (fun _ _ _ _ _ _ => rfl) fun h => ?_
  have h1 := nxk g hi h (by decide)
  refine S_want hl.len h1 wLp (fun _ _ _ _ _ _ => rfl) fun h => ?_
  have h2 := nx g h1 h
  refine is_step hl h2 wRp ?_
  cases h : isT wRp (tk l (i + 1 + 1)) with
  | true =>
    refine Sim.no rfl ?_
    have e1 : run (pw l) l (Pm.take wRp (funRest (tk l i) []) (.call .field fun a => .call .fields fun r => funRest (tk l i) (a :: r))) (i + 1 + 1) = run (pw l) l (heads (tk l i) []) (i + 1 + 1) := by
      unfold heads
      rw [run, run, h]
      rfl
    refine Eq.subst (motive := fun r => Sim l fnV _ r) e1.symm ?_
    simp only [head0_eq]
    exact head_ok hl hn _ h2 (tk l i) [] _ _ _ _ _ _ _ _ _ _ _ _ _ _ _ _ _
  | false =>
    refine Sim.yes rfl ?_
    have e1 : run (pw l) l (Pm.take wRp (funRest (tk l i) []) (.call .field fun a => .call .fields fun r => funRest (tk l i) (a :: r))) (i + 1 + 1) = run (pw l) l (.call .field fun a => .call .fields fun r => funRest (tk l i) (a :: r)) (i + 1 + 1) := by
      rw [run, h]
      rfl
    refine Eq.subst (motive := fun r => Sim l fnV _ r) e1.symm ?_
    rw [run_call]
    refine S_F (field_ok hl _ h2) (fun _ _ _ _ _ _ => rfl) fun a j hj => ?_
    have hf := pw_ok g h2 hj
    rw [← Fld.rows_one]
    exact Sim.diag (params_ok hl hn (tk l i) _ _ _ _ _ _ _ _ _ _ _ _ _ _ _ _ _ _ j hf.2 (Nat.le_refl _) [a] (by simp only [List.length_cons, List.length_nil]; omega))

/-! ### Programs -/
abbrev prog2 (ins : List Fld) (fs : List Fnc) : Pm Pg := .call .expr fun q => .ret ⟨ins, fs, q⟩
theorem funs3_ok (hl : Few l) (hn : Nums l) (ins : List Fld) (z' : List (List D)) (z3 x2 x3 : Int) (s4 : ByteArray) (x5 x6 x8 x9 : Int) (s10 : ByteArray) (x11 x12 : Int) : ∀ (d i : Nat), i < l.length → l.length - i ≤ d → ∀ fs : List Fnc, fs.length ≤ i →
    Sim l pV (fun m k n => l45_1_v3 m (Ak k) n z' z3 (toks l) (Int.ofNat i) x2 x3 s4 x5 x6 (Fld.rows ins) (Fnc.rows fs) x8 x9 s10 x11 x12) (run (pw l) l (.call .funs fun b => prog2 ins (fs ++ b)) i)
  | 0, i, hi, h, _, _ => by omega
  | d + 1, i, hi, h, fs, ha => by
    have g := hl.good
    rw [run_open g _ _ i hi]
    refine Sim.step ?_
    simp only [l45_1_v3_eq]
    refine S_take hl.len hi wFun (fun h => Sim.yes rfl ?_) (fun h => Sim.no rfl ?_)
    · have h1 := nx g hi h
      simp only [q45_2_v3_eq]
      refine Eq.subst (motive := fun r => Sim l pV _ r) (run_call _ _ _).symm ?_
      refine S_Fn (fun_ok hl hn _ h1) (fun _ _ _ _ _ _ => rfl) fun a j hj => ?_
      have hf := pw_ok g h1 hj
      refine Sim.yes (by rw [Fnc.rows_len]; exact roomy _ _ (by have := hl.len; omega) (by omega)) ?_
      rw [← Fnc.rows_app]
      have := funs3_ok hl hn ins z' z3 x2 x3 s4 x5 x6 x8 x9 s10 x11 x12 d j hf.2 (by omega) (fs ++ [a]) (by rw [List.length_append, List.length_singleton]; omega)
      simp only [List.append_assoc, List.singleton_append] at this
      exact this
    · simp only [q45_3_v3_eq]
      show Sim l pV _ (run (pw l) l (prog2 ins (fs ++ [])) i)
      rw [List.append_nil]
      refine Eq.subst (motive := fun r => Sim l pV _ r) (run_call _ _ _).symm ?_
      exact S_E (exprs_ok hl hn _ hi) (fun _ _ _ _ _ _ => rfl) fun b j2 hj2 => Sim.ret fun _ _ _ => rfl
theorem funs2_ok (hl : Few l) (hn : Nums l) (ins : List Fld) (z' : List (List D)) (z3 x2 x3 : Int) (s4 : ByteArray) (x5 x6 x8 x9 : Int) (s10 : ByteArray) (x11 x12 : Int) : ∀ (d i : Nat), i < l.length → l.length - i ≤ d → ∀ fs : List Fnc, fs.length ≤ i →
    Sim l pV (fun m k n => l45_1_v2 m (Ak k) n z' z3 (toks l) (Int.ofNat i) x2 x3 s4 x5 x6 (Fnc.rows fs) x8 x9 s10 x11 x12) (run (pw l) l (.call .funs fun b => prog2 [] (fs ++ b)) i)
  | 0, i, hi, h, _, _ => by omega
  | d + 1, i, hi, h, fs, ha => by
    have g := hl.good
    rw [run_open g _ _ i hi]
    refine Sim.step ?_
    simp only [l45_1_v2_eq]
    refine S_take hl.len hi wFun (fun h => Sim.yes rfl ?_) (fun h => Sim.no rfl ?_)
    · have h1 := nx g hi h
      simp only [q45_2_v2_eq]
      refine Eq.subst (motive := fun r => Sim l pV _ r) (run_call _ _ _).symm ?_
      refine S_Fn (fun_ok hl hn _ h1) (fun _ _ _ _ _ _ => rfl) fun a j hj => ?_
      have hf := pw_ok g h1 hj
      refine Sim.yes (by rw [Fnc.rows_len]; exact roomy _ _ (by have := hl.len; omega) (by omega)) ?_
      rw [← Fnc.rows_app]
      have := funs2_ok hl hn ins z' z3 x2 x3 s4 x5 x6 x8 x9 s10 x11 x12 d j hf.2 (by omega) (fs ++ [a]) (by rw [List.length_append, List.length_singleton]; omega)
      simp only [List.append_assoc, List.singleton_append] at this
      exact this
    · simp only [q45_3_v2_eq]
      show Sim l pV _ (run (pw l) l (prog2 [] (fs ++ [])) i)
      rw [List.append_nil]
      refine Eq.subst (motive := fun r => Sim l pV _ r) (run_call _ _ _).symm ?_
      exact S_E (exprs_ok hl hn _ hi) (fun _ _ _ _ _ _ => rfl) fun b j2 hj2 => Sim.ret fun _ _ _ => rfl
theorem funs1_ok (hl : Few l) (hn : Nums l) (ins : List Fld) (z' : List (List D)) (z3 x2 x3 : Int) (s4 : ByteArray) (x5 x6 x8 x9 : Int) (s10 : ByteArray) (x11 x12 : Int) (i : Nat) (hi : i < l.length) :
    Sim l pV (fun m k n => l45_1_v1 m (Ak k) n z' z3 (toks l) (Int.ofNat i) x2 x3 s4 x5 x6 (Fld.rows ins) x8 x9 s10 x11 x12) (run (pw l) l (.call .funs fun b => prog2 ins b) i) := by
  have g := hl.good
  rw [run_open g _ _ i hi]
  refine Sim.step ?_
  simp only [l45_1_v1_eq]
  refine S_take hl.len hi wFun (fun h => Sim.yes rfl ?_) (fun h => Sim.no rfl ?_)
  · have h1 := nx g hi h
    simp only [q45_2_v1_eq]
    refine Eq.subst (motive := fun r => Sim l pV _ r) (run_call _ _ _).symm ?_
    refine S_Fn (fun_ok hl hn _ h1) (fun _ _ _ _ _ _ => rfl) fun a j hj => ?_
    have hf := pw_ok g h1 hj
    have e1 := (Fnc.rows_app [] a).symm
    rw [show Fnc.rows [] = [] from rfl, List.nil_append, List.nil_append] at e1
    rw [e1]
    exact funs3_ok hl hn ins z' z3 x2 x3 s4 x5 x6 x8 x9 s10 x11 x12 _ j hf.2 (Nat.le_refl _) [a] (by simp only [List.length_cons, List.length_nil]; omega)
  · simp only [q45_3_v1_eq]
    refine Eq.subst (motive := fun r => Sim l pV _ r) (run_call _ _ _).symm ?_
    exact S_E (exprs_ok hl hn _ hi) (fun _ _ _ _ _ _ => rfl) fun b j2 hj2 => Sim.ret fun _ _ _ => rfl
theorem inputs_ok (hl : Few l) (hn : Nums l) (z' : List (List D)) (z3 x2 x3 : Int) (s4 : ByteArray) (x5 x6 x8 x9 : Int) (s10 : ByteArray) (x11 x12 : Int) : ∀ (d i : Nat), i < l.length → l.length - i ≤ d → ∀ ins : List Fld, ins.length ≤ i →
    Sim l pV (fun m k n => l45_0_v1 m (Ak k) n z' z3 (toks l) (Int.ofNat i) x2 x3 s4 x5 x6 (Fld.rows ins) x8 x9 s10 x11 x12) (run (pw l) l (.call .inputs fun a => .call .funs fun b => prog2 (ins ++ a) b) i)
  | 0, i, hi, h, _, _ => by omega
  | d + 1, i, hi, h, ins, ha => by
    have g := hl.good
    rw [run_open g _ _ i hi]
    refine Sim.step ?_
    simp only [l45_0_v1_eq]
    refine S_take hl.len hi wInput (fun h => Sim.yes rfl ?_) (fun h => Sim.no rfl ?_)
    · have h1 := nx g hi h
      simp only [q45_0_v1_eq]
      refine Eq.subst (motive := fun r => Sim l pV _ r) (run_call _ _ _).symm ?_
      refine S_F (field_ok hl _ h1) (fun _ _ _ _ _ _ => rfl) fun a j hj => ?_
      have hf := pw_ok g h1 hj
      refine Sim.yes (by rw [Fld.rows_len]; exact roomy _ _ (by have := hl.len; omega) (by omega)) ?_
      refine S_want hl.len hf.2 wSc (fun _ _ _ _ _ _ => rfl) fun h => ?_
      have h2 := nx g hf.2 h
      rw [← Fld.rows_app]
      have := inputs_ok hl hn z' z3 x2 x3 s4 x5 x6 x8 x9 s10 x11 x12 d (j + 1) h2 (by omega) (ins ++ [a]) (by rw [List.length_append, List.length_singleton]; omega)
      simp only [List.append_assoc, List.singleton_append] at this
      exact this
    · simp only [q45_1_v1_eq]
      show Sim l pV _ (run (pw l) l (.call .funs fun b => prog2 (ins ++ []) b) i)
      rw [List.append_nil]
      exact Sim.diag (funs1_ok hl hn ins z' z3 x2 x3 s4 x5 x6 x8 x9 s10 x11 x12 i hi)
end
end Go.Proofs.Ytbmcafehpgimfaa.Ps
namespace Go.Proofs.Ytbmcafehpgimfaa.Ps
set_option linter.unusedVariables false
set_option linter.unusedSimpArgs false
open Go Go.RowKit Px
open Lx (Tok tok scan sm dg nm sgn val isWord ws nnl Flt)

theorem tok_kind {l : List UInt8} {k : Int} {w : List UInt8} {n : Int} (h : Lx.tok l = .ok k w n) : k ≠ 5 ∧ k ≠ 0 ∧ 0 ≤ n ∧ n ≤ 2147483647 := by
  unfold Lx.tok at h
  split at h
  · split at h
    · cases h
    · split at h <;> (cases h; decide)
  · split at h
    · split at h
      · cases h
      · rename_i h2
        cases h
        exact ⟨by decide, by decide, by omega, by omega⟩
    · split at h
      · cases h
      · cases h; decide
structure TokL (n : Nat) (l : List Tok) : Prop where
  few : l.length ≤ n + 1
  pos : 0 < l.length
  last : ∀ i, i < l.length → ((tk l i).kind = 5 ↔ i + 1 = l.length)
  nums : ∀ t ∈ l, 0 ≤ t.n ∧ t.n ≤ 2147483647
theorem tk_succ (t : Tok) (l : List Tok) (i : Nat) : tk (t :: l) (i + 1) = tk l i := rfl
theorem TokL.cons {n : Nat} {l : List Tok} (h : TokL n l) {t : Tok} (h1 : t.kind ≠ 5) (h2 : 0 ≤ t.n ∧ t.n ≤ 2147483647) : TokL (n + 1) (t :: l) where
  few := by have := h.few; rw [List.length_cons]; omega
  pos := by simp
  last := fun i hi => by
    cases i with
    | zero =>
      have := h.pos
      rw [List.length_cons]
      show t.kind = 5 ↔ _
      exact ⟨fun e => absurd e h1, fun e => by omega⟩
    | succ i =>
      rw [tk_succ]
      rw [List.length_cons] at hi ⊢
      rw [h.last i (by omega)]
      omega
  nums := fun x hx => by
    rcases List.mem_cons.1 hx with rfl | hx
    · exact h2
    · exact h.nums x hx
theorem TokL.mono {n m : Nat} {l : List Tok} (h : TokL n l) (hm : n ≤ m) : TokL m l := ⟨by have := h.few; omega, h.pos, h.last, h.nums⟩
theorem scan_tokl : ∀ (d : Nat) (l : List UInt8) (line col : Int) (r : List Tok), l.length < d → scan l line col = .ok r → TokL l.length r
  | 0, l, _, _, _, h, _ => by omega
  | d + 1, [], line, col, r, hd, h => by
    rw [scan] at h
    cases h
    exact ⟨by simp, by simp, fun i hi => by
      have : i = 0 := by simpa using hi
      subst this
      exact ⟨fun _ => rfl, fun _ => rfl⟩, fun t ht => by
      rw [List.mem_singleton.1 ht]
      exact ⟨Int.le_refl 0, (by decide : (0 : Int) ≤ 2147483647)⟩⟩
  | d + 1, c :: t, line, col, r, hd, h => by
    rw [List.length_cons] at hd
    rw [scan] at h
    split at h
    · exact (scan_tokl d t _ _ r (by omega) h).mono (by simp)
    split at h
    · exact (scan_tokl d t _ _ r (by omega) h).mono (by simp)
    split at h
    · have := (List.dropWhile_sublist (p := nnl) (l := t)).length_le
      exact (scan_tokl d _ _ _ r (by omega) h).mono (by rw [List.length_cons]; omega)
    cases ht : Lx.tok (c :: t) with
    | bad e w => rw [ht] at h; cases h
    | ok k w n =>
      rw [ht] at h
      simp only at h
      cases hs : scan (t.drop (w.length - 1)) line (col + w.length) with
      | error f => rw [hs] at h; cases h
      | ok l' =>
        rw [hs] at h
        cases h
        have h1 := scan_tokl d _ _ _ l' (by rw [List.length_drop]; omega) hs
        have hk := tok_kind ht
        exact (h1.cons (t := ⟨k, w, n, line, col⟩) hk.1 hk.2.2).mono (by rw [List.length_drop, List.length_cons]; omega)
theorem scan_bad : ∀ (d : Nat) (l : List UInt8) (line col : Int) (g : Flt), l.length < d → scan l line col = .error g → g.e ≠ 0
  | 0, l, _, _, _, h, _ => by omega
  | d + 1, [], line, col, r, hd, h => by rw [scan] at h; cases h
  | d + 1, c :: t, line, col, g, hd, h => by
    rw [List.length_cons] at hd
    rw [scan] at h
    split at h
    · exact scan_bad d t _ _ g (by omega) h
    split at h
    · exact scan_bad d t _ _ g (by omega) h
    split at h
    · have := (List.dropWhile_sublist (p := nnl) (l := t)).length_le
      exact scan_bad d _ _ _ g (by omega) h
    cases ht : Lx.tok (c :: t) with
    | bad e w =>
      rw [ht] at h
      cases h
      exact tok_bad ht
    | ok k w n =>
      rw [ht] at h
      simp only at h
      cases hs : scan (t.drop (w.length - 1)) line (col + w.length) with
      | error f =>
        rw [hs] at h
        cases h
        exact scan_bad d _ _ _ g (by rw [List.length_drop]; omega) hs
      | ok l' => rw [hs] at h; cases h
theorem scan_few {l : List UInt8} {r : List Tok} (hl : l.length ≤ 20000) (h : scan l 1 1 = .ok r) : Few r ∧ Nums r ∧ 0 < r.length := by
  have := scan_tokl _ l 1 1 r (Nat.lt_succ_self _) h
  refine ⟨⟨⟨this.last⟩, by have := this.few; omega⟩, fun i => ?_, this.pos⟩
  by_cases hi : i < r.length
  · have e : tk r i = r[i] := by unfold tk; rw [List.getD_eq_getElem?_getD, List.getElem?_eq_getElem hi]; rfl
    rw [e]
    exact this.nums _ (List.getElem_mem hi)
  · have e : tk r i = ⟨0, [], 0, 0, 0⟩ := by unfold tk; rw [List.getD_eq_getElem?_getD, List.getElem?_eq_none (by omega)]; rfl
    rw [e]
    exact ⟨by decide, by decide⟩

/-! ### A whole text -/
abbrev EXl : List Lf := [Lf.int IntKind.i64, Lf.int IntKind.i64, Lf.str, Lf.lst 1, Lf.lst 1, Lf.lst 8, Lf.int IntKind.i64, Lf.int IntKind.i64]
def eX (e : E) : List X := [X.d (D.int IntKind.i64 e.k), X.d (D.int IntKind.i64 e.n), X.d (D.str (bx e.name)), X.d (D.list 1 (strs e.names)), X.d (D.list 1 (ints e.odds)), X.d (D.list 8 (E.rows e.kids)), X.d (D.int IntKind.i64 e.line), X.d (D.int IntKind.i64 e.col)]
def noE : E := .mk 0 0 [] [] [] [] 0 0
def tokF (t : Tok) : Flt := ⟨11, t.text, t.line, t.col⟩
def wholeE (l : List Tok) : Rs E := run (pw l) l (.call .expr fun e => .knd 5 (.ret e) .fail) 0
theorem C_lit (l : List Tok) (hl : Few l) (hn : Nums l) (i : Nat) (hi : i < l.length) (e0 : E) :
    Cal 23 [V.one (X.ptr 0 0), V.one (X.ptr 1 0)] [(RD, rd l i), (EXl, eX e0)] (match pw l .expr i with
      | .ok a j => ⟨true, V.tup [], D.junk, [rd l j, eX a], 0⟩
      | .no j => ⟨false, V.junk, flt (tk l j), [rd l j, eX e0], 0⟩
      | .out => ⟨true, V.junk, D.junk, [], 0⟩) := by
  have h := exprs_ok hl hn i hi (pw_ends hl.good _ i hi)
  refine call23 _ _ _ _ _ _ _ _ _ _ ?_
  simp only [e23_eq]
  cases hp : pw l .expr i with
  | ok a j =>
    rw [hp] at h
    exact v_a8IISL1L1L8II_L5I h (Ev.ret _)
  | no j =>
    rw [hp] at h
    exact u_a8IISL1L1L8II_L5I h (Ev.ret _)
  | out => exact absurd hp (pw_ends hl.good _ i hi)
/-- What reading tells: a fault or none, and what stands in the variable then. -/
def ReadOut (s : List UInt8) (f : List X) (e : E) : Prop :=
  if 20000 < s.length then f = [iX 2, sX [], iX 0, iX 0] ∧ e = noE else
  match scan s 1 1 with
  | .error g => f = fltX g ∧ e = noE
  | .ok l => match wholeE l with
    | .ok a _ => f = fine ∧ e = a
    | .no j => f = fltX (tokF (tk l j))
    | .out => False
theorem C_read1 (s : List UInt8) : ∃ f e, ReadOut s f e ∧ Cal 22 [V.one (X.d (D.str (bx s))), V.one (X.fn 23 [X.ptr 0 0])] [(EXl, eX noE)] ⟨true, V.agg f, D.junk, [eX e], 0⟩ := by
  have ht := C_tokens s
  by_cases hs : 20000 < s.length
  · rw [if_pos hs] at ht
    refine ⟨_, _, by unfold ReadOut; rw [if_pos hs]; exact ⟨rfl, rfl⟩, ?_⟩
    refine call22f23 _ _ _ _ _ _ _ _ _ ?_
    simp only [e22f23_eq]
    exact v_t2oL5a4ISII ht (Ev.yes rfl (Ev.ret _))
  rw [if_neg hs] at ht
  unfold ReadOut
  simp only [if_neg hs]
  cases hsc : scan s 1 1 with
  | error g =>
    rw [hsc] at ht
    refine ⟨_, _, ⟨rfl, rfl⟩, ?_⟩
    refine call22f23 _ _ _ _ _ _ _ _ _ ?_
    simp only [e22f23_eq]
    have tl : tokOut [] (.error g) = V.tup [V.one (X.d (D.list 5 [])), V.agg (fltX g)] := rfl
    rw [tl] at ht
    exact v_t2oL5a4ISII ht (Ev.yes (by simpa using scan_bad _ s 1 1 g (Nat.lt_succ_self _) hsc) (Ev.ret _))
  | ok l =>
    rw [hsc] at ht
    have hfew := scan_few (by omega) hsc
    have h0 := hfew.2.2
    have hlit := C_lit l hfew.1 hfew.2.1 0 h0 noE
    have tl : tokOut [] (.ok l) = V.tup [V.one (X.d (D.list 5 (toks l))), V.agg fine] := rfl
    rw [tl] at ht
    simp only
    have e0 : wholeE l = thenR (pw l .expr 0) fun e j => run (pw l) l (.knd 5 (.ret e) .fail) j := run_call _ _ _
    rw [e0]
    cases hp : pw l .expr 0 with
    | out => exact absurd hp (pw_ends hfew.1.good _ 0 h0)
    | no j =>
      rw [hp] at hlit
      refine ⟨_, noE, rfl, ?_⟩
      refine call22f23 _ _ _ _ _ _ _ _ _ ?_
      simp only [e22f23_eq]
      refine v_t2oL5a4ISII ht (Ev.no rfl ?_)
      simp only [q22_0_v1_eq]
      exact u_n_L5I_IISL1L1L8II hlit (Ev.of fun m k n => rfl)
    | ok a j =>
      rw [hp] at hlit
      have hf := pw_ok hfew.1.good h0 hp
      have ht2 := C_token hf.2
      show ∃ f e, (match run (pw l) l (.knd 5 (.ret a) .fail) j with
        | .ok a _ => f = fine ∧ e = a
        | .no j => f = fltX (tokF (tk l j))
        | .out => False) ∧ _
      rw [run]
      cases hk : (tk l j).kind == 5 with
      | true =>
        refine ⟨_, a, ⟨rfl, rfl⟩, ?_⟩
        refine call22f23 _ _ _ _ _ _ _ _ _ ?_
        simp only [e22f23_eq]
        refine v_t2oL5a4ISII ht (Ev.no rfl ?_)
        simp only [q22_0_v1_eq, q22_1_v1_eq]
        exact v_n_L5I_IISL1L1L8II hlit (v_a5ISIII_L5I ht2 (Ev.no (by rw [bne, hk]; rfl) (Ev.ret _)))
      | false =>
        refine ⟨_, a, rfl, ?_⟩
        refine call22f23 _ _ _ _ _ _ _ _ _ ?_
        simp only [e22f23_eq]
        refine v_t2oL5a4ISII ht (Ev.no rfl ?_)
        simp only [q22_0_v1_eq]
        exact v_n_L5I_IISL1L1L8II hlit (v_a5ISIII_L5I ht2 (Ev.yes (by rw [bne, hk]; rfl) (u_n_L5I (C_fail hf.2) (Ev.of fun m k n => rfl))))
end Go.Proofs.Ytbmcafehpgimfaa.Ps
namespace Go.Proofs.Ytbmcafehpgimfaa.Px
set_option linter.unusedVariables false
set_option linter.unusedSimpArgs false
mutual
def deepE : E → Nat → Option E
  | e, 0 => some e
  | .mk _ _ _ _ _ ks _ _, n + 1 => deepEs ks n
def deepEs : List E → Nat → Option E
  | [], _ => none
  | x :: r, n => match deepE x n with
    | some y => some y
    | none => deepEs r n
end
def big (a b : Int) : Int := if a < b then b else a
mutual
def deepT : T → Int
  | .mk _ l => IntKind.wrap .i64 (deepTs l 0 + 1)
def deepTs : List T → Int → Int
  | [], a => a
  | x :: r, a => deepTs r (big a (deepT x))
end
theorem deepE_zero (e : E) : deepE e 0 = some e := by cases e; rw [deepE]
theorem deepE_succ (e : E) (n : Nat) : deepE e (n + 1) = deepEs e.kids n := by cases e; rw [deepE]; rfl
theorem deepT_eq (t : T) : deepT t = IntKind.wrap .i64 (deepTs t.l 0 + 1) := by cases t; rw [deepT]; rfl
def limE (e : E) : Option (Int × Int) := (deepE e 40).map fun x => (x.line, x.col)
def limT (t : T) (a b : Int) : Option (Int × Int) := if 40 < deepT t then some (a, b) else none
def limFs : List Fld → Option (Int × Int)
  | [] => none
  | f :: r => match limT f.typ f.line f.col with
    | some x => some x
    | none => limFs r
def limFn (f : Fnc) : Option (Int × Int) := match limFs f.params with
  | some x => some x
  | none => match limT f.res f.line f.col with
    | some x => some x
    | none => limE f.body
def limFns : List Fnc → Option (Int × Int)
  | [] => none
  | f :: r => match limFn f with
    | some x => some x
    | none => limFns r
def limP (p : Pg) : Option (Int × Int) := match limFs p.inputs with
  | some x => some x
  | none => match limFns p.funs with
    | some x => some x
    | none => limE p.query
end Go.Proofs.Ytbmcafehpgimfaa.Px
namespace Go.Proofs.Ytbmcafehpgimfaa.Ps
set_option linter.unusedVariables false
open Go Go.RowKit Px
open Lx (Tok)

def deepV : Option E → V
  | some e => V.tup [eV e, V.one (bX true)]
  | none => V.tup [eV noE, V.one (bX false)]
def limX : Option (Int × Int) → List X
  | none => fine
  | some (a, b) => [iX 2, sX [], iX a, iX b]
theorem E.rows_at (ks : List E) (i : Nat) (h : i < ks.length) : (E.rows ks).getD i [] = E.row ks[i] := by
  have : Inhabited E := ⟨noE⟩
  rw [E.rows_map, rows_getD _ _ _ h, List.getD_eq_getElem?_getD, List.getElem?_eq_getElem h]
  rfl
theorem T.rows_at (ks : List T) (i : Nat) (h : i < ks.length) : (T.rows ks).getD i [] = T.row ks[i] := by
  have : Inhabited T := ⟨.mk 0 []⟩
  rw [T.rows_map, rows_getD _ _ _ h, List.getD_eq_getElem?_getD, List.getElem?_eq_getElem h]
  rfl
theorem L_deep (ks : List E) (hk : ks.length < 9223372036854775807) (n : Nat) (hn : n ≤ 40) (H : ∀ x ∈ ks, Cal 57 [eV x, nV (Int.ofNat n)] [] (RV (deepV (deepE x n)))) (x4 x5 : Int) (s6 : ByteArray) (x7 x8 : Int) : ∀ (d i : Nat), i ≤ ks.length → ks.length - i = d →
    Ev (fun m k z => l57_0 m (Ak k) z (Int.ofNat n + 1) (E.rows ks) (Int.ofNat ks.length) (Int.ofNat i) x4 x5 s6 x7 x8) (RV (deepV (deepEs (ks.drop i) n))) := by
  intro d
  induction d with
  | zero =>
    intro i hi hd
    rw [List.drop_eq_nil_of_le (by omega), deepEs]
    refine Ev.step ?_
    simp only [l57_0_eq]
    refine Ev.no (lt_no i _ (by omega)) ?_
    simp only [q57_3_eq]
    refine Ev.of fun m k z => ?_
    unfold deepV eV noE
    simp only [E.rows_nil, E.kids]
    rfl
  | succ d ih =>
    intro i hi hd
    have hlt : i < ks.length := by omega
    have hat := E.rows_at ks i hlt
    rw [E.row_eq] at hat
    rw [List.drop_eq_getElem_cons hlt, deepEs]
    refine Ev.step ?_
    simp only [l57_0_eq]
    refine Ev.yes (lt_yes i _ hlt) ?_
    simp only [q57_1_eq, tn, hat]
    refine Ev.yes (in_range i _ (by rw [E.rows_len]; exact hlt)) ?_
    have hw : IntKind.wrap .i64 (Int.ofNat n + 1 - 1) = Int.ofNat n := by rw [wrap_in _ (by simp only [Int.ofNat_eq_natCast]; omega) (by simp only [Int.ofNat_eq_natCast]; omega)]; omega
    rw [hw]
    have hc := H ks[i] (List.getElem_mem hlt)
    cases hx : deepE ks[i] n with
    | some y =>
      rw [hx] at hc
      exact v_t2a8IISL1L1L8IIoB hc (Ev.yes rfl (Ev.ret _))
    | none =>
      rw [hx] at hc
      refine v_t2a8IISL1L1L8IIoB hc (Ev.no rfl ?_)
      simp only [q57_2_eq, wrap_up i (by omega)]
      exact ih (i + 1) (by omega) (by omega)
/-! Every list within is short. -/
mutual
def SmallE : E → Prop
  | .mk _ _ _ _ _ ks _ _ => ks.length < 9223372036854775807 ∧ SmallEs ks
def SmallEs : List E → Prop
  | [] => True
  | x :: r => SmallE x ∧ SmallEs r
end
mutual
theorem C_deep : ∀ (e : E), SmallE e → ∀ n, n ≤ 40 → Cal 57 [eV e, nV (Int.ofNat n)] [] (RV (deepV (deepE e n)))
  | e, hs, 0, _ => by
    rw [deepE_zero]
    refine call57 _ _ _ _ _ _ _ _ _ ?_
    simp only [e57_eq]
    exact Ev.yes rfl (Ev.ret _)
  | .mk k m s ns os ks a b, hs, n + 1, hn => by
    rw [SmallE] at hs
    rw [deepE_succ]
    refine call57 _ _ _ _ _ _ _ _ _ ?_
    simp only [e57_eq]
    refine Ev.no (decide_eq_false (by simp only [Int.ofNat_eq_natCast]; omega)) ?_
    simp only [q57_0_eq]
    have := L_deep ks hs.1 n (by omega) (C_deepAll ks hs.2 n (by omega))
    have h2 := fun (x4 x5 : Int) (s6 : ByteArray) (x7 x8 : Int) => Ev.diag (this x4 x5 s6 x7 x8 _ 0 (Nat.zero_le _) rfl)
    have e1 : Int.ofNat (E.rows (E.mk k m s ns os ks a b).kids).length = Int.ofNat ks.length := congrArg Int.ofNat (E.rows_len ks)
    rw [e1]
    exact h2 _ _ _ _ _
theorem C_deepAll : ∀ (ks : List E), SmallEs ks → ∀ n, n ≤ 40 → ∀ x ∈ ks, Cal 57 [eV x, nV (Int.ofNat n)] [] (RV (deepV (deepE x n)))
  | [], _, _, _, x, hx => by cases hx
  | y :: r, hs, n, hn, x, hx => by
    rw [SmallEs] at hs
    rcases List.mem_cons.1 hx with h | h
    · rw [h]; exact C_deep y hs.1 n hn
    · exact C_deepAll r hs.2 n hn x h
end
theorem C_limit (e : E) (hs : SmallE e) : Cal 25 [eV e] [] (RV (V.agg (limX (limE e)))) := by
  refine call25 _ _ _ _ _ _ _ _ ?_
  simp only [e25_eq]
  have h := C_deep e hs 40 (by decide)
  unfold limE
  cases hd : deepE e 40 with
  | some y =>
    rw [hd] at h
    exact v_t2a8IISL1L1L8IIoB h (Ev.yes rfl (Ev.ret _))
  | none =>
    rw [hd] at h
    refine v_t2a8IISL1L1L8IIoB h (Ev.no rfl ?_)
    exact Ev.of fun m k n => by rw [q25_0_eq]; rfl
end Go.Proofs.Ytbmcafehpgimfaa.Ps
namespace Go.Proofs.Ytbmcafehpgimfaa.Ps
set_option linter.unusedVariables false
set_option linter.unusedSimpArgs false
open Go Go.RowKit Px
open Lx (Tok)

/-! Every list within is short. -/
mutual
def SmallT : T → Prop
  | .mk _ l => l.length < 9223372036854775807 ∧ SmallTs l
def SmallTs : List T → Prop
  | [] => True
  | x :: r => SmallT x ∧ SmallTs r
end
theorem deepTs_step (ks : List T) (i : Nat) (h : i < ks.length) (a : Int) : deepTs (ks.drop i) a = deepTs (ks.drop (i + 1)) (big a (deepT ks[i])) := by
  rw [List.drop_eq_getElem_cons h, deepTs]
theorem L_deepT (ks : List T) (hk : ks.length < 9223372036854775807) (H : ∀ x ∈ ks, Cal 75 [tV x] [] (RV (nV (deepT x)))) : ∀ (d i : Nat) (a : Int), i ≤ ks.length → ks.length - i = d →
    Ev (fun m k z => l75_0 m (Ak k) z a (T.rows ks) (Int.ofNat ks.length) (Int.ofNat i)) (RV (nV (IntKind.wrap .i64 (deepTs (ks.drop i) a + 1)))) := by
  intro d
  induction d with
  | zero =>
    intro i a hi hd
    rw [List.drop_eq_nil_of_le (by omega), deepTs]
    refine Ev.step ?_
    simp only [l75_0_eq]
    refine Ev.no (lt_no i _ (by omega)) ?_
    simp only [q75_2_eq]
    exact Ev.ret _
  | succ d ih =>
    intro i a hi hd
    have hlt : i < ks.length := by omega
    have hat := T.rows_at ks i hlt
    rw [T.row_eq] at hat
    rw [deepTs_step ks i hlt]
    refine Ev.step ?_
    simp only [l75_0_eq]
    refine Ev.yes (lt_yes i _ hlt) ?_
    simp only [q75_0_eq, tn, hat]
    refine Ev.yes (in_range i _ (by rw [T.rows_len]; exact hlt)) ?_
    have hc := H ks[i] (List.getElem_mem hlt)
    refine v_oI hc ?_
    simp only [q75_1_eq, wrap_up i (show i < 9223372036854775807 by omega)]
    exact ih (i + 1) _ (by omega) (by omega)
mutual
theorem C_deepT : ∀ (t : T), SmallT t → Cal 75 [tV t] [] (RV (nV (deepT t)))
  | .mk k l, hs => by
    rw [SmallT] at hs
    rw [deepT_eq]
    refine call75 _ _ ?_
    simp only [e75_eq]
    have := Ev.diag (L_deepT l hs.1 (C_deepTs l hs.2) _ 0 0 (Nat.zero_le _) rfl)
    have e1 : Int.ofNat (T.rows (T.mk k l).l).length = Int.ofNat l.length := congrArg Int.ofNat (T.rows_len l)
    rw [e1]
    exact this
theorem C_deepTs : ∀ (ks : List T), SmallTs ks → ∀ x ∈ ks, Cal 75 [tV x] [] (RV (nV (deepT x)))
  | [], _, x, hx => by cases hx
  | y :: r, hs, x, hx => by
    rw [SmallTs] at hs
    rcases List.mem_cons.1 hx with h | h
    · rw [h]; exact C_deepT y hs.1
    · exact C_deepTs r hs.2 x h
end
theorem Fld.rows_at (ks : List Fld) (i : Nat) (h : i < ks.length) : (Fld.rows ks).getD i [] = Fld.row ks[i] := by
  have : Inhabited Fld := ⟨⟨[], .mk 0 [], 0, 0⟩⟩
  unfold Fld.rows
  rw [rows_getD _ _ _ h, List.getD_eq_getElem?_getD, List.getElem?_eq_getElem h]
  rfl
theorem Fnc.rows_at (ks : List Fnc) (i : Nat) (h : i < ks.length) : (Fnc.rows ks).getD i [] = Fnc.row ks[i] := by
  have : Inhabited Fnc := ⟨⟨[], [], .mk 0 [], noE, 0, 0⟩⟩
  unfold Fnc.rows
  rw [rows_getD _ _ _ h, List.getD_eq_getElem?_getD, List.getElem?_eq_getElem h]
  rfl
section
variable (p : Pg) (x13 x15 x16 : Int) (s14 : ByteArray)
/-- What a program must be like for its lists to be counted. -/
structure SmallFn (f : Fnc) : Prop where
  len : f.params.length < 9223372036854775807
  typ : ∀ x ∈ f.params, SmallT x.typ
  res : SmallT f.res
  body : SmallE f.body
structure SmallP (p : Pg) : Prop where
  ilen : p.inputs.length < 9223372036854775807
  ityp : ∀ x ∈ p.inputs, SmallT x.typ
  flen : p.funs.length < 9223372036854775807
  fn : ∀ f ∈ p.funs, SmallFn f
  query : SmallE p.query
end
end Go.Proofs.Ytbmcafehpgimfaa.Ps
namespace Go.Proofs.Ytbmcafehpgimfaa.Ps
set_option linter.unusedVariables false
set_option linter.unusedSimpArgs false
open Go Go.RowKit Px
open Lx (Tok tok scan sm dg nm sgn val isWord ws nnl Flt)

theorem wEs_len : ∀ l : List E, l.length ≤ wEs l
  | [] => by rw [wEs]; exact Nat.le_refl _
  | x :: r => by
    have := wEs_len r
    have := wE_pos x
    rw [wEs, List.length_cons]
    omega
mutual
theorem small_E : ∀ e : E, wE e < 9223372036854775807 → SmallE e
  | .mk k n s ns os ks a b, h => by
    rw [wE] at h
    rw [SmallE]
    have := wEs_len ks
    exact ⟨by omega, small_Es ks (by omega)⟩
theorem small_Es : ∀ l : List E, wEs l < 9223372036854775807 → SmallEs l
  | [], _ => by rw [SmallEs]; trivial
  | x :: r, h => by
    rw [wEs] at h
    rw [SmallEs]
    exact ⟨small_E x (by omega), small_Es r (by omega)⟩
end
theorem wT_pos (t : T) : 1 ≤ wT t := by cases t; rw [wT]; omega
theorem wTs_len : ∀ l : List T, l.length ≤ wTs l
  | [] => by rw [wTs]; exact Nat.le_refl _
  | x :: r => by
    have := wTs_len r
    have := wT_pos x
    rw [wTs, List.length_cons]
    omega
mutual
theorem small_T : ∀ t : T, wT t < 9223372036854775807 → SmallT t
  | .mk k l, h => by
    rw [wT] at h
    rw [SmallT]
    have := wTs_len l
    exact ⟨by omega, small_Ts l (by omega)⟩
theorem small_Ts : ∀ l : List T, wTs l < 9223372036854775807 → SmallTs l
  | [], _ => by rw [SmallTs]; trivial
  | x :: r, h => by
    rw [wTs] at h
    rw [SmallTs]
    exact ⟨small_T x (by omega), small_Ts r (by omega)⟩
end
theorem wFs_len : ∀ l : List Fld, l.length ≤ wFs l
  | [] => Nat.le_refl _
  | x :: r => by
    have := wFs_len r
    have := wT_pos x.typ
    rw [wFs, List.length_cons, wF]
    omega
theorem wFs_mem : ∀ (l : List Fld) (x : Fld), x ∈ l → wT x.typ ≤ wFs l
  | y :: r, x, h => by
    rw [wFs]
    rcases List.mem_cons.1 h with rfl | h
    · rw [wF]; omega
    · have := wFs_mem r x h; omega
theorem wFns_len : ∀ l : List Fnc, l.length ≤ wFns l
  | [] => Nat.le_refl _
  | x :: r => by
    have := wFns_len r
    rw [wFns, List.length_cons, wFn]
    omega
theorem wFns_mem : ∀ (l : List Fnc) (x : Fnc), x ∈ l → wFn x ≤ wFns l
  | y :: r, x, h => by
    rw [wFns]
    rcases List.mem_cons.1 h with rfl | h
    · omega
    · have := wFns_mem r x h; omega
/-! ### An expression -/
def okF : Flt := ⟨0, [], 0, 0⟩
def limF (x : Int × Int) : Flt := ⟨2, [], x.1, x.2⟩
def exprL (l : List Tok) : E × Flt :=
  match wholeE l with
  | .ok a _ => match limE a with
    | none => (a, okF)
    | some x => (noE, limF x)
  | .no j => (noE, tokF (tk l j))
  | .out => (noE, okF)
def exprF (s : List UInt8) : E × Flt :=
  if 20000 < s.length then (noE, limF (0, 0)) else
  match scan s 1 1 with
  | .error g => (noE, g)
  | .ok l => exprL l
theorem C_Expr (s : List UInt8) : Cal 11 [V.one (X.d (D.str (bx s)))] [] (RV (V.tup [eV (exprF s).1, V.agg (fltX (exprF s).2)])) := by
  obtain ⟨f, e, ho, hc⟩ := C_read1 s
  refine call11 _ ?_
  simp only [e11_eq]
  unfold ReadOut at ho
  unfold exprF
  by_cases hs : 20000 < s.length
  · rw [if_pos hs] at ho ⊢
    obtain ⟨rfl, rfl⟩ := ho
    refine v_a4ISII_IISL1L1L8II hc (Ev.no rfl ?_)
    simp only [q11_0_eq]
    exact Ev.yes rfl (Ev.of fun m k n => by unfold eV noE; simp only [E.kids, E.rows_nil]; rfl)
  rw [if_neg hs] at ho ⊢
  cases hsc : scan s 1 1 with
  | error g =>
    rw [hsc] at ho
    obtain ⟨rfl, rfl⟩ := ho
    have hb := scan_bad _ s 1 1 g (Nat.lt_succ_self _) hsc
    refine v_a4ISII_IISL1L1L8II hc (Ev.no (by simpa using hb) ?_)
    simp only [q11_0_eq]
    exact Ev.yes (by simpa using hb) (Ev.of fun m k n => by unfold eV noE; simp only [E.kids, E.rows_nil]; rfl)
  | ok l =>
    rw [hsc] at ho
    have hfew := scan_few (by omega) hsc
    show Ev _ (RV (V.tup [eV (exprL l).1, V.agg (fltX (exprL l).2)]))
    unfold exprL
    simp only at ho
    cases hw : wholeE l with
    | out => rw [hw] at ho; exact ho.elim
    | no j =>
      rw [hw] at ho
      simp only at ho
      subst ho
      refine v_a4ISII_IISL1L1L8II hc (Ev.no rfl ?_)
      simp only [q11_0_eq]
      exact Ev.yes rfl (Ev.of fun m k n => by unfold eV noE; simp only [E.kids, E.rows_nil]; rfl)
    | ok a j =>
      rw [hw] at ho
      obtain ⟨rfl, rfl⟩ := ho
      have hsm : SmallE e := by
        have h2 : wholeE l = thenR (pw l .expr 0) fun e j => run (pw l) l (.knd 5 (.ret e) .fail) j := run_call _ _ _
        rw [h2] at hw
        cases hp : pw l .expr 0 with
        | out => rw [hp] at hw; cases hw
        | no k => rw [hp] at hw; cases hw
        | ok b k =>
          rw [hp] at hw
          have h3 := pw_wt hp
          have h4 := (pw_ok hfew.1.good hfew.2.2 hp).2
          have h5 := hfew.1.len
          have : b = e := by
            replace hw : run (pw l) l (.knd 5 (.ret b) .fail) k = .ok e j := hw
            rw [run] at hw
            cases hk : (tk l k).kind == 5 with
            | true => rw [hk] at hw; cases hw; rfl
            | false => rw [hk] at hw; cases hw
          subst this
          refine small_E b ?_
          have h6 : wE b + 0 ≤ 0 + k := h3
          omega
      have hl := C_limit e hsm
      refine v_a4ISII_IISL1L1L8II hc (Ev.yes rfl ?_)
      simp only
      cases hx : limE e with
      | none =>
        rw [hx] at hl
        refine v_a4ISII hl ?_
        simp only [q11_0_eq, q11_1_eq]
        exact Ev.no rfl (Ev.ret _)
      | some x =>
        rw [hx] at hl
        refine v_a4ISII hl ?_
        simp only [q11_0_eq]
        exact Ev.yes rfl (Ev.of fun m k n => by unfold eV noE; simp only [E.kids, E.rows_nil]; rfl)

/-! ### A program -/
abbrev PXl : List Lf := [Lf.lst 5, Lf.lst 14, Lf.int IntKind.i64, Lf.int IntKind.i64, Lf.str, Lf.lst 1, Lf.lst 1, Lf.lst 8, Lf.int IntKind.i64, Lf.int IntKind.i64]
def noP : Pg := ⟨[], [], noE⟩
def wholeP (l : List Tok) : Rs Pg := run (pw l) l (.call .program fun e => .knd 5 (.ret e) .fail) 0
def ReadOutP (s : List UInt8) (f : List X) (e : Pg) : Prop :=
  if 20000 < s.length then f = [iX 2, sX [], iX 0, iX 0] ∧ e = noP else
  match scan s 1 1 with
  | .error g => f = fltX g ∧ e = noP
  | .ok l => match wholeP l with
    | .ok a _ => f = fine ∧ e = a
    | .no j => f = fltX (tokF (tk l j))
    | .out => False
def progL_ (l : List Tok) : Pg × Flt :=
  match wholeP l with
  | .ok a _ => match limP a with
    | none => (a, okF)
    | some x => (noP, limF x)
  | .no j => (noP, tokF (tk l j))
  | .out => (noP, okF)
def progF (s : List UInt8) : Pg × Flt :=
  if 20000 < s.length then (noP, limF (0, 0)) else
  match scan s 1 1 with
  | .error g => (noP, g)
  | .ok l => progL_ l
end Go.Proofs.Ytbmcafehpgimfaa.Ps
namespace Go.Proofs.Ytbmcafehpgimfaa.Ps
set_option linter.unusedVariables false
set_option linter.unusedSimpArgs false
open Go Go.RowKit Px
open Lx (Tok tok scan Flt)

abbrev YES : Out := RV (V.one (bX true))
theorem C_awake : Cal 10 [] [] YES := by
  refine ⟨100, fun m k n h1 h2 h3 => ?_⟩
  obtain ⟨k, rfl⟩ : ∃ k', k = k' + 100 := ⟨k - 100, by omega⟩
  exact awake_all k
theorem awake_end {Q : Nat → Nat → Nat → D → Option Out} : Ev (fun m k n => r_oB (Ak k false 10 [] []) (fun c => some (RV (V.one (bX c)))) (Q m k n)) YES := v_oB C_awake (Ev.ret _)
theorem wholeE_eq (l : List Tok) : wholeE l = thenR (pw l .expr 0) fun e j => run (pw l) l (.knd 5 (.ret e) .fail) j := run_call _ _ _
theorem wholeP_eq (l : List Tok) : wholeP l = thenR (pw l .program 0) fun e j => run (pw l) l (.knd 5 (.ret e) .fail) j := run_call _ _ _
theorem run_end {α : Type} (l : List Tok) (a : α) (j : Nat) : run (pw l) l (.knd 5 (.ret a) .fail) j = bif (tk l j).kind == 5 then .ok a j else .no j := by
  rw [run]
  cases (tk l j).kind == 5 <;> rfl
theorem wholeE_some {l : List Tok} {e : E} {j : Nat} (h : wholeE l = .ok e j) : pw l .expr 0 = .ok e j ∧ ((tk l j).kind == 5) = true := by
  rw [wholeE_eq] at h
  cases hp : pw l .expr 0 with
  | no k => rw [hp] at h; cases h
  | out => rw [hp] at h; cases h
  | ok a k =>
    rw [hp] at h
    replace h : run (pw l) l (.knd 5 (.ret a) .fail) k = .ok e j := h
    rw [run_end] at h
    cases hk : (tk l k).kind == 5 with
    | false => rw [hk] at h; cases h
    | true => rw [hk] at h; cases h; exact ⟨rfl, hk⟩
theorem wholeE_of {l : List Tok} {e : E} {j : Nat} (h : pw l .expr 0 = .ok e j) (hk : ((tk l j).kind == 5) = true) : wholeE l = .ok e j := by
  rw [wholeE_eq, h]
  show run (pw l) l (.knd 5 (.ret e) .fail) j = _
  rw [run_end, hk]
  rfl
theorem wholeP_of {l : List Tok} {e : Pg} {j : Nat} (h : pw l .program 0 = .ok e j) (hk : ((tk l j).kind == 5) = true) : wholeP l = .ok e j := by
  rw [wholeP_eq, h]
  show run (pw l) l (.knd 5 (.ret e) .fail) j = _
  rw [run_end, hk]
  rfl
/-- What an answer without a fault tells. -/
theorem exprF_ok {s : List UInt8} (h : (exprF s).2.e = 0) : s.length ≤ 20000 ∧ ∃ l j, scan s 1 1 = .ok l ∧ wholeE l = .ok (exprF s).1 j ∧ limE (exprF s).1 = none ∧ (exprF s).2 = okF := by
  unfold exprF at h ⊢
  by_cases hs : 20000 < s.length
  · rw [if_pos hs] at h; cases h
  rw [if_neg hs] at h ⊢
  refine ⟨by omega, ?_⟩
  cases hsc : scan s 1 1 with
  | error g => rw [hsc] at h; exact absurd h (scan_bad _ s 1 1 g (Nat.lt_succ_self _) hsc)
  | ok l =>
    rw [hsc] at h
    have hfew := scan_few (by omega) hsc
    simp only at h ⊢
    unfold exprL at h ⊢
    cases hw : wholeE l with
    | out =>
      rw [wholeE_eq] at hw
      cases hp : pw l .expr 0 with
      | no k => rw [hp] at hw; cases hw
      | out => exact absurd hp (pw_ends hfew.1.good _ 0 hfew.2.2)
      | ok a k =>
        rw [hp] at hw
        replace hw : run (pw l) l (.knd 5 (.ret a) .fail) k = .out := hw
        rw [run_end] at hw
        cases hk : (tk l k).kind == 5 with
        | false => rw [hk] at hw; cases hw
        | true => rw [hk] at hw; cases hw
    | no j => rw [hw] at h; cases h
    | ok a j =>
      rw [hw] at h
      simp only at h ⊢
      cases hx : limE a with
      | some x => rw [hx] at h; cases h
      | none => exact ⟨l, j, rfl, hw, hx, rfl⟩
/-- An expression's text is a program's. -/
theorem progF_of {s : List UInt8} (h : (exprF s).2.e = 0) : progF s = (⟨[], [], (exprF s).1⟩, okF) ∧ wE (exprF s).1 ≤ 1000000 := by
  obtain ⟨hs, l, j, hsc, hw, hx, _⟩ := exprF_ok h
  generalize (exprF s).1 = e at hw hx
  have hfew := scan_few hs hsc
  obtain ⟨h1, h2⟩ := wholeE_some hw
  have h3 := query_of hfew.1.good hfew.2.2 h1
  unfold progF
  rw [if_neg (by omega), hsc]
  simp only
  unfold progL_
  rw [wholeP_of h3 h2]
  have h4 : limP ⟨[], [], e⟩ = none := hx
  refine ⟨?_, ?_⟩
  · simp only [h4]
  · have h5 : wE e + 0 ≤ 0 + j := pw_wt h1
    have h6 := (pw_ok hfew.1.good hfew.2.2 h1).2
    have h7 := hfew.1.len
    omega
end Go.Proofs.Ytbmcafehpgimfaa.Ps
namespace Go.Proofs.Ytbmcafehpgimfaa.Px
set_option linter.unusedVariables false
set_option linter.unusedSimpArgs false
theorem sE_kids {a b : E} (h : sE a = sE b) : sEs a.kids = sEs b.kids := by
  cases a; cases b
  rw [sE_mk, sE_mk] at h
  injection h
theorem deepE_alike : ∀ n, (∀ a b, sE a = sE b → (deepE a n).isSome = (deepE b n).isSome) ∧ (∀ l l', sEs l = sEs l' → (deepEs l n).isSome = (deepEs l' n).isSome) := by
  have lst : ∀ n, (∀ a b, sE a = sE b → (deepE a n).isSome = (deepE b n).isSome) → ∀ l l', sEs l = sEs l' → (deepEs l n).isSome = (deepEs l' n).isSome := by
    intro n h l
    induction l with
    | nil =>
      intro l' he
      cases l' with
      | nil => rfl
      | cons y r => rw [sEs_nil, sEs_cons] at he; cases he
    | cons x l ih =>
      intro l' he
      cases l' with
      | nil => rw [sEs_nil, sEs_cons] at he; cases he
      | cons y r =>
        rw [sEs_cons, sEs_cons] at he
        injection he with h1 h2
        have e1 := h x y h1
        have e2 := ih r h2
        rw [deepEs, deepEs]
        cases hx : deepE x n with
        | some z =>
          rw [hx] at e1
          cases hy : deepE y n with
          | some w => rfl
          | none => rw [hy] at e1; cases e1
        | none =>
          rw [hx] at e1
          cases hy : deepE y n with
          | some w => rw [hy] at e1; cases e1
          | none => exact e2
  intro n
  induction n with
  | zero => exact ⟨fun a b _ => by rw [deepE_zero, deepE_zero]; rfl, lst 0 fun a b _ => by rw [deepE_zero, deepE_zero]; rfl⟩
  | succ n ih =>
    have h : ∀ a b, sE a = sE b → (deepE a (n + 1)).isSome = (deepE b (n + 1)).isSome := fun a b hab => by
      rw [deepE_succ, deepE_succ]
      exact ih.2 _ _ (sE_kids hab)
    exact ⟨h, lst _ h⟩
theorem limE_alike {a b : E} (h : sE a = sE b) : (limE a).isSome = (limE b).isSome := by
  unfold limE
  rw [Option.isSome_map, Option.isSome_map]
  exact (deepE_alike 40).1 a b h
theorem limT_alike (t : T) (a b c d : Int) : (limT t a b).isSome = (limT t c d).isSome := by
  unfold limT
  split <;> rfl
theorem limFs_alike : ∀ l l' : List Fld, l.map sF = l'.map sF → (limFs l).isSome = (limFs l').isSome
  | [], [], _ => rfl
  | [], _ :: _, h => by cases h
  | _ :: _, [], h => by cases h
  | x :: l, y :: l', h => by
    rw [List.map_cons, List.map_cons] at h
    injection h with h1 h2
    unfold sF at h1
    injection h1 with _ h1
    rw [limFs, limFs]
    have e1 := limT_alike x.typ x.line x.col y.line y.col
    rw [h1] at e1 ⊢
    have e2 := limFs_alike l l' h2
    cases hx : limT y.typ x.line x.col <;> cases hy : limT y.typ y.line y.col <;> rw [hx, hy] at e1 <;> first | exact e2 | rfl | cases e1
theorem limFn_alike {x y : Fnc} (h : sFn x = sFn y) : (limFn x).isSome = (limFn y).isSome := by
  unfold sFn at h
  injection h with _ h1 h2 h3
  unfold limFn
  have e1 := limFs_alike _ _ h1
  have e2 := limT_alike x.res x.line x.col y.line y.col
  have e3 := limE_alike h3
  rw [h2] at e2 ⊢
  cases hx : limFs x.params <;> cases hy : limFs y.params <;> rw [hx, hy] at e1 <;> first | (cases e1; done) | skip
  · simp only
    cases hx : limT y.res x.line x.col <;> cases hy : limT y.res y.line y.col <;> rw [hx, hy] at e2 <;> first | exact e3 | rfl | cases e2
  · rfl
theorem limFns_alike : ∀ l l' : List Fnc, l.map sFn = l'.map sFn → (limFns l).isSome = (limFns l').isSome
  | [], [], _ => rfl
  | [], _ :: _, h => by cases h
  | _ :: _, [], h => by cases h
  | x :: l, y :: l', h => by
    rw [List.map_cons, List.map_cons] at h
    injection h with h1 h2
    rw [limFns, limFns]
    have e1 := limFn_alike h1
    have e2 := limFns_alike l l' h2
    cases hx : limFn x <;> cases hy : limFn y <;> rw [hx, hy] at e1 <;> first | exact e2 | rfl | cases e1
end Go.Proofs.Ytbmcafehpgimfaa.Px
namespace Go.Proofs.Ytbmcafehpgimfaa.Ps
set_option linter.unusedVariables false
set_option linter.unusedSimpArgs false
open Px
open Lx (Tok tok scan Flt bare At scan_at put Good scan_good Gap gapped pl Hd)

theorem tk_append (a b : List Tok) (i : Nat) : tk (a ++ b) i = if i < a.length then tk a i else tk b (i - a.length) := by
  unfold tk
  rw [List.getD_eq_getElem?_getD, List.getD_eq_getElem?_getD, List.getD_eq_getElem?_getD]
  split
  · rw [List.getElem?_append_left (by assumption)]
  · rw [List.getElem?_append_right (by omega)]
theorem tk_take (a : List Tok) (n i : Nat) (h : i < n) : tk (a.take n) i = tk a i := by
  unfold tk
  rw [List.getD_eq_getElem?_getD, List.getD_eq_getElem?_getD, List.getElem?_take_of_lt h]
/-- Texts that begin alike read alike, as far as they do. -/
theorem whole_agree {l l' : List Tok} (gl : GoodL l) (gl' : GoodL l') (h0 : 0 < l.length) (h0' : 0 < l'.length) {n : Nat} (hl : ∀ i, i < n → tk l' i = tk l i) (hn : endR (wholeP l) < n) : wholeP l' = wholeP l := by
  rw [wholeP_eq] at hn ⊢
  rw [wholeP_eq]
  cases hp : pw l .program 0 with
  | out => exact absurd hp (pw_ends gl _ 0 h0)
  | no k =>
    rw [hp] at hn
    have := pw_agree gl gl' hl (q := .program) h0 h0' (by rw [hp]; exact hn)
    rw [this, hp]
    rfl
  | ok a k =>
    rw [hp] at hn
    replace hn : endR (run (pw l) l (.knd 5 (.ret a) .fail) k) < n := hn
    have hk : k < n := by
      rw [run_end] at hn
      cases hq : (tk l k).kind == 5 with
      | true => rw [hq] at hn; exact hn
      | false => rw [hq] at hn; exact hn
    have := pw_agree gl gl' hl (q := .program) h0 h0' (by rw [hp]; exact hk)
    rw [this, hp]
    show run (pw l') l' (.knd 5 (.ret a) .fail) k = run (pw l) l (.knd 5 (.ret a) .fail) k
    rw [run_end, run_end, hl k hk]
theorem whole_in {l : List Tok} (gl : GoodL l) (h0 : 0 < l.length) {k : Nat} (h : wholeP l = .no k) : k < l.length := by
  rw [wholeP_eq] at h
  have hf := pw_fine gl .program 0 h0
  cases hp : pw l .program 0 with
  | out => rw [hp] at h; cases h
  | no j => rw [hp] at h hf; cases h; exact hf.2
  | ok a j =>
    rw [hp] at h hf
    replace h : run (pw l) l (.knd 5 (.ret a) .fail) j = .no k := h
    rw [run_end] at h
    cases hq : (tk l j).kind == 5 with
    | true => rw [hq] at h; cases h
    | false => rw [hq] at h; cases h; exact hf.2
theorem progF_no {s : List UInt8} (h : (progF s).2.e = 11) : s.length ≤ 20000 ∧ ∃ l j, scan s 1 1 = .ok l ∧ wholeP l = .no j ∧ (progF s).2 = tokF (tk l j) := by
  unfold progF at h ⊢
  by_cases hs : 20000 < s.length
  · rw [if_pos hs] at h; cases h
  rw [if_neg hs] at h ⊢
  refine ⟨by omega, ?_⟩
  cases hsc : scan s 1 1 with
  | error g => rw [hsc] at h; exact absurd h (Lx.scan_code _ s 1 1 g (Nat.lt_succ_self _) hsc)
  | ok l =>
    rw [hsc] at h
    simp only at h ⊢
    unfold progL_ at h ⊢
    cases hw : wholeP l with
    | out => rw [hw] at h; cases h
    | no j => exact ⟨l, j, rfl, hw, rfl⟩
    | ok a j =>
      rw [hw] at h
      simp only at h
      cases hx : limP a with
      | some x => rw [hx] at h; cases h
      | none => rw [hx] at h; cases h
/-- Where a fault of the syntax stands. -/
structure Fault (s : List UInt8) (l : List Tok) (j p : Nat) : Prop where
  sc : scan s 1 1 = .ok l
  no : wholeP l = .no j
  f : (progF s).2 = tokF (tk l j)
  lt : j < l.length
  at_ : At s 1 1 l j p
  col : (p : Int) = pl s ((tk l j).line - 1).toNat + (tk l j).col - 1
  fits : p + (tk l j).text.length ≤ s.length
theorem goes {s : List UInt8} {l : List Tok} {j p : Nat} (hs : s.length ≤ 20000) (h : Fault s l j p) (he : (progF (s.take p)).2.e = 11) : (progF (s.take p)).2.text = [] := by
  obtain ⟨_, l', k, hsc, hw, hf⟩ := progF_no he
  have hfew := scan_few hs h.sc
  have hfew' := scan_few (by rw [List.length_take]; omega) hsc
  have h1 := h.at_.go [] (.inl rfl)
  rw [List.append_nil, hsc, scan] at h1
  have h2 : l' = l.take j ++ [⟨5, [], 0, (tk l j).line, (tk l j).col⟩] := by injection h1
  have hlt := h.lt
  have hlen : (l.take j).length = j := by rw [List.length_take]; omega
  have hk := whole_in hfew'.1.good hfew'.2.2 hw
  have hk2 : l'.length = j + 1 := by rw [h2, List.length_append, hlen]; rfl
  have hag : ∀ i, i < j → tk l i = tk l' i := fun i hi => by rw [h2, tk_append, if_pos (by omega), tk_take _ _ _ hi]
  have hkj : ¬ k < j := fun hkj => by
    have := whole_agree hfew'.1.good hfew.1.good hfew'.2.2 hfew.2.2 (n := j) hag (by rw [hw]; exact hkj)
    rw [hw, h.no] at this
    injection this with this
    omega
  obtain rfl : k = j := by omega
  rw [hf, h2, tk_append, if_neg (by omega), hlen, Nat.sub_self]
  rfl
theorem first {s more : List UInt8} {l l' : List Tok} {j p : Nat} (hs : s.length ≤ 9000) (hm : more.length ≤ 9000) (h : Fault s l j p) (ht : (tk l j).text ≠ []) (hsc : scan (s.take (p + (tk l j).text.length) ++ 32 :: more) 1 1 = .ok l') :
    (progF (s.take (p + (tk l j).text.length) ++ 32 :: more)).2 = (progF s).2 := by
  have hfew := scan_few (by omega) h.sc
  have hlen : (s.take (p + (tk l j).text.length) ++ 32 :: more).length ≤ 20000 := by rw [List.length_append, List.length_take, List.length_cons]; omega
  have hfew' := scan_few hlen hsc
  rw [h.f]
  have hx : ∃ c t, s.drop p = c :: t ∧ c.toNat ≠ 10 ∧ Lx.ws c = false ∧ c.toNat ≠ 35 := by
    rcases h.at_.what with ⟨h1, h2⟩ | ⟨h1, _⟩
    · exfalso
      have h4 := h.fits
      have h5 := congrArg List.length h1
      rw [List.length_drop] at h5
      have h6 := List.length_pos_iff.2 ht
      simp at h5
      omega
    · exact h1
  obtain ⟨c, t, hd, c10, cw, c35⟩ := hx
  have htok : Lx.tok (s.drop p) = .ok (tk l j).kind (tk l j).text (tk l j).n := by
    rcases h.at_.what with ⟨h1, _⟩ | ⟨_, h2⟩
    · rw [hd] at h1; cases h1
    · exact h2
  have hw := (Lx.tok_take htok).1
  obtain ⟨w', hw'⟩ : ∃ w', (tk l j).text = c :: w' := by
    cases hc : (tk l j).text with
    | nil => exact absurd hc ht
    | cons b w' =>
      rw [hc, hd, List.length_cons, List.take_succ_cons] at hw
      injection hw with hw _
      exact ⟨w', by rw [hw]⟩
  have hsplit : s.take (p + (tk l j).text.length) ++ 32 :: more = s.take p ++ ((tk l j).text ++ 32 :: more) := by
    rw [List.take_add, ← hw, List.append_assoc]
  have hgo := h.at_.go ((tk l j).text ++ 32 :: more) (.inr ⟨c, w' ++ 32 :: more, t, by rw [hw']; rfl, hd⟩)
  rw [← hsplit, hsc] at hgo
  have hext := Lx.tok_ext (z := 32 :: more) htok (.inr ⟨32, more, rfl, .inl rfl⟩)
  have hscan : scan ((tk l j).text ++ 32 :: more) (tk l j).line (tk l j).col = put [tk l j] (scan (32 :: more) (tk l j).line ((tk l j).col + (tk l j).text.length)) := by
    have e : (tk l j).text ++ 32 :: more = c :: (w' ++ 32 :: more) := by rw [hw']; rfl
    rw [e] at hext ⊢
    rw [Lx.scan_cons_tok c10 cw c35 hext]
    have e2 : (⟨(tk l j).kind, (tk l j).text, (tk l j).n, (tk l j).line, (tk l j).col⟩ : Tok) = tk l j := rfl
    rw [e2]
    congr 2
    rw [hw', List.length_cons, Nat.add_sub_cancel, List.drop_left]
  rw [hscan, Lx.put_put] at hgo
  cases hr : scan (32 :: more) (tk l j).line ((tk l j).col + (tk l j).text.length) with
  | error g => rw [hr] at hgo; cases hgo
  | ok r =>
    rw [hr] at hgo
    have hl' : l' = (l.take j ++ [tk l j]) ++ r := by injection hgo
    have hlt := h.lt
    have hln : (l.take j).length = j := by rw [List.length_take]; omega
    have hag : ∀ i, i < j + 1 → tk l' i = tk l i := fun i hi => by
      rw [hl', tk_append, if_pos (by rw [List.length_append, hln]; show i < j + 1; exact hi), tk_append]
      by_cases hij : i < j
      · rw [if_pos (by omega), tk_take _ _ _ hij]
      · obtain rfl : i = j := by omega
        rw [if_neg (by omega), hln, Nat.sub_self]
        rfl
    have hwh := whole_agree hfew.1.good hfew'.1.good hfew.2.2 hfew'.2.2 hag (by rw [h.no]; exact Nat.lt_succ_self _)
    unfold progF
    rw [if_neg (by omega), hsc]
    simp only
    unfold progL_
    rw [hwh, h.no]
    simp only
    rw [hag j (Nat.lt_succ_self _)]
end Go.Proofs.Ytbmcafehpgimfaa.Ps
namespace Go.Proofs.Ytbmcafehpgimfaa.Ps
set_option linter.unusedVariables false
set_option linter.unusedSimpArgs false
open Px
open Lx (Tok tok scan Flt bare At scan_at put Good scan_good Gap gapped pl Hd)

abbrev B3 : Type := Int × List UInt8 × Int
def bt (b : List B3) (i : Nat) : B3 := b.getD i (0, [], 0)
theorem bt_map (l : List Tok) (i : Nat) : bt (l.map bare) i = bare (tk l i) := by
  unfold bt tk
  rw [List.getD_eq_getElem?_getD, List.getD_eq_getElem?_getD, List.getElem?_map]
  cases l[i]? <;> rfl
theorem bt_append (a b : List B3) (i : Nat) : bt (a ++ b) i = if i < a.length then bt a i else bt b (i - a.length) := by
  unfold bt
  rw [List.getD_eq_getElem?_getD, List.getD_eq_getElem?_getD, List.getD_eq_getElem?_getD]
  split
  · rw [List.getElem?_append_left (by assumption)]
  · rw [List.getElem?_append_right (by omega)]
theorem bt_replicate (k : Nat) (x : B3) (i : Nat) (h : i < k) : bt (List.replicate k x) i = x := by
  unfold bt
  rw [List.getD_eq_getElem?_getD, List.getElem?_replicate, if_pos h]
  rfl
theorem bt_take (a : List B3) (n i : Nat) (h : i < n) : bt (a.take n) i = bt a i := by
  unfold bt
  rw [List.getD_eq_getElem?_getD, List.getD_eq_getElem?_getD, List.getElem?_take_of_lt h]
abbrev LPb : B3 := (4, [40], 0)
abbrev RPb : B3 := (4, [41], 0)
abbrev CMb : B3 := (4, [44], 0)
abbrev ENDb : B3 := (5, [], 0)
theorem isT_of {t : Tok} {w : List UInt8} (h : bare t = (4, w, 0)) : isT w t = true := by
  unfold bare at h
  injection h with h1 h2
  injection h2 with h2 h3
  unfold isT
  rw [h1, h2]
  simp
theorem kind_of {t : Tok} {k : Int} {w : List UInt8} {n : Int} (h : bare t = (k, w, n)) : t.kind = k ∧ t.text = w := by
  unfold bare at h
  injection h with h1 h2
  injection h2 with h2 h3
  exact ⟨h1, h2⟩
def opens (k : Nat) (s : List UInt8) : List UInt8 := List.replicate k 40 ++ (s ++ 10 :: List.replicate k 41)
def pairT (s : List UInt8) : List UInt8 := 40 :: (s ++ 10 :: 44 :: 32 :: (s ++ 10 :: [41]))
theorem dropLast_bare {l us : List Tok} (h : us.map bare = l.map bare) : us.dropLast.map bare = (l.map bare).take (l.length - 1) := by
  rw [List.dropLast_eq_take, List.map_take, h]
  have := congrArg List.length h
  rw [List.length_map, List.length_map] at this
  rw [this]
theorem scan_opens {s : List UInt8} {l : List Tok} (h : scan s 1 1 = .ok l) (k : Nat) : ∃ us, scan (opens k s) 1 1 = .ok us ∧ us.map bare = List.replicate k LPb ++ ((l.map bare).take (l.length - 1) ++ (List.replicate k RPb ++ [ENDb])) := by
  obtain ⟨ts, h1, col', h2⟩ := Lx.scan_lps k 1 1
  obtain ⟨l1, h3, h4⟩ := Lx.scan_else h 1 col'
  obtain ⟨line', h5⟩ := Lx.scan_nl _ s 1 col' l1 (Nat.le_refl _) h3
  obtain ⟨us, h6, h7⟩ := Lx.scan_rps k line' 1
  refine ⟨ts ++ (l1.dropLast ++ us), ?_, ?_⟩
  · unfold opens
    rw [h2, h5, h6]
    rfl
  · rw [List.map_append, List.map_append, h1, dropLast_bare h4, h7]
theorem scan_pairT {s : List UInt8} {l : List Tok} (h : scan s 1 1 = .ok l) : ∃ us, scan (pairT s) 1 1 = .ok us ∧ us.map bare = [LPb] ++ ((l.map bare).take (l.length - 1) ++ ([CMb] ++ ((l.map bare).take (l.length - 1) ++ [RPb, ENDb]))) := by
  obtain ⟨l1, h3, h4⟩ := Lx.scan_else h 1 2
  obtain ⟨line', h5⟩ := Lx.scan_nl _ s 1 2 l1 (Nat.le_refl _) h3
  obtain ⟨l2, h6, h7⟩ := Lx.scan_else h line' 3
  obtain ⟨line2, h8⟩ := Lx.scan_nl _ s line' 3 l2 (Nat.le_refl _) h6
  refine ⟨⟨4, [40], 0, 1, 1⟩ :: (l1.dropLast ++ (⟨4, [44], 0, line', 1⟩ :: (l2.dropLast ++ [⟨4, [41], 0, line2, 1⟩, ⟨5, [], 0, line2, 2⟩]))), ?_, ?_⟩
  · unfold pairT
    rw [Lx.scan_lp1]
    show put _ (scan (s ++ 10 :: 44 :: 32 :: (s ++ 10 :: [41])) 1 2) = _
    rw [h5, Lx.scan_cm1]
    have e : scan (32 :: (s ++ 10 :: [41])) line' (1 + 1) = scan (s ++ 10 :: [41]) line' 3 := by
      rw [scan, if_neg (by decide), if_pos (by decide)]
      rfl
    rw [e, h8, Lx.scan_rp1, scan]
    rfl
  · rw [List.map_cons, List.map_append, dropLast_bare h4, List.map_cons, List.map_append, dropLast_bare h7]
    rfl
/-- An expression's text, taken whole. -/
structure Whole (s : List UInt8) (l : List Tok) (e : E) (j : Nat) : Prop where
  sc : scan s 1 1 = .ok l
  read : pw l .expr 0 = .ok e j
  fin : (tk l j).kind = 5
  len : l.length = j + 1
  lim : limE e = none
theorem whole_of {s : List UInt8} (h : (exprF s).2.e = 0) : s.length ≤ 20000 ∧ ∃ l j, Whole s l (exprF s).1 j := by
  obtain ⟨hs, l, j, hsc, hw, hx, _⟩ := exprF_ok h
  have hfew := scan_few hs hsc
  obtain ⟨h1, h2⟩ := wholeE_some hw
  have hj := (pw_ok hfew.1.good hfew.2.2 h1).2
  have h3 : (tk l j).kind = 5 := by simpa using h2
  exact ⟨hs, l, j, hsc, h1, h3, ((hfew.1.good.last j hj).1 h3).symm, hx⟩
theorem exprF_is {s : List UInt8} {l : List Tok} {x : E} {j : Nat} (hs : s.length ≤ 20000) (hsc : scan s 1 1 = .ok l) (h : pw l .expr 0 = .ok x j) (hk : (tk l j).kind = 5) : exprF s = match limE x with
    | none => (x, okF)
    | some y => (noE, limF y) := by
  unfold exprF
  rw [if_neg (by omega), hsc]
  simp only
  unfold exprL
  rw [wholeE_of h (by rw [hk]; rfl)]
  all_goals (first | (simp only; done) | (simp only; cases limE x <;> rfl))
theorem opens_law {s : List UInt8} {l : List Tok} {e : E} {j k : Nat} (hk : k < 30) (hs : s.length ≤ 4000) (h : Whole s l e j) : ∃ x, exprF (opens k s) = (x, okF) ∧ sE x = sE e := by
  obtain ⟨us, h1, h2⟩ := scan_opens h.sc k
  have hlen : (opens k s).length ≤ 20000 := by unfold opens; rw [List.length_append, List.length_append, List.length_cons, List.length_replicate, List.length_replicate]; omega
  have hfew := scan_few hlen h1
  have hfl := scan_few (by omega) h.sc
  have gu := hfew.1.good
  have hl := h.len
  have hul : us.length = k + (j + (k + 1)) := by
    have := congrArg List.length h2
    rw [List.length_map, List.length_append, List.length_append, List.length_append, List.length_replicate, List.length_replicate, List.length_take, List.length_map] at this
    rw [this]
    simp
    omega
  have hjl : ((l.map bare).take (l.length - 1)).length = j := by rw [List.length_take, List.length_map]; omega
  have a1 : ∀ i, i < k → bare (tk us i) = LPb := fun i hi => by
    rw [← bt_map, h2, bt_append, List.length_replicate, if_pos hi, bt_replicate _ _ _ hi]
  have a2 : ∀ i, i < j → bare (tk us (i + k)) = bare (tk l i) := fun i hi => by
    rw [← bt_map us, h2, bt_append, List.length_replicate, if_neg (by omega), bt_append, hjl, if_pos (by omega), bt_take _ _ _ (by omega), bt_map, Nat.add_sub_cancel]
  have a3 : ∀ i, i < k → bare (tk us (j + k + i)) = RPb := fun i hi => by
    rw [← bt_map us, h2, bt_append, List.length_replicate, if_neg (by omega), bt_append, hjl, if_neg (by omega), bt_append, List.length_replicate, if_pos (by omega), bt_replicate _ _ _ (by omega)]
  have a4 : bare (tk us (j + k + k)) = ENDb := by
    rw [← bt_map us, h2, bt_append, List.length_replicate, if_neg (by omega), bt_append, hjl, if_neg (by omega), bt_append, List.length_replicate, if_neg (by omega), show j + k + k - k - j - k = 0 by omega]
    rfl
  have key : ∃ x, pw us .expr k = .ok x (j + k) ∧ sE x = sE e := by
    by_cases hk0 : k = 0
    · subst hk0
      have hb : ∀ i, bare (tk us i) = bare (tk l i) := fun i => by
        by_cases hi : i < j
        · exact a2 i hi
        · by_cases hij : i = j
          · subst hij
            have h3 : bare (tk l i) = ENDb := by
              have h4 := Lx.scan_good _ _ _ _ _ (Nat.le_refl _) h.sc
              have : bare (tk us i) = ENDb := a4
              obtain ⟨p, hp⟩ := scan_at _ s 1 1 l (Nat.le_refl _) h.sc i (by omega)
              rcases hp.what with ⟨h5, h6⟩ | ⟨_, h6⟩
              · have h7 := hp.tail
                rw [h5, scan] at h7
                have h8 : l.drop i = [⟨5, [], 0, (tk l i).line, (tk l i).col⟩] := by injection h7 with h7; exact h7.symm
                have h9 : tk (l.drop i) 0 = tk l i := by
                  unfold tk
                  rw [List.getD_eq_getElem?_getD, List.getD_eq_getElem?_getD, List.getElem?_drop]
                  rfl
                rw [← h9, h8]
                rfl
              · exact absurd h.fin (Lx.tok_kind h6)
            have h5 : bare (tk us i) = ENDb := a4
            rw [h3, h5]
          · rw [← bt_map, ← bt_map]
            unfold bt
            rw [List.getD_eq_getElem?_getD, List.getD_eq_getElem?_getD, List.getElem?_eq_none (by rw [List.length_map]; omega), List.getElem?_eq_none (by rw [List.length_map]; omega)]
      have h6 := pw_same (l := l) (l' := us) (by omega) hb .expr 0
      rw [h.read] at h6
      cases h7 : pw us .expr 0 with
      | ok x i =>
        rw [h7] at h6
        obtain ⟨rfl, h8⟩ := h6
        exact ⟨x, rfl, h8.symm⟩
      | no i => rw [h7] at h6; exact h6.elim
      | out => rw [h7] at h6; exact h6.elim
    · have a5 := kind_of (a3 0 (by omega))
      rw [Nat.add_zero] at a5
      obtain ⟨x, h6, h7⟩ := pw_in (l := l) (l' := us) gu (e := j) (sh := k) (by omega) a2 h.fin ⟨a5.1, .inl a5.2⟩ h.read
      exact ⟨x, h6, h7.symm⟩
  obtain ⟨x, hx, hxe⟩ := key
  have step : ∀ d, d ≤ k → pw us .expr (k - d) = .ok x (j + k + d) := by
    intro d
    induction d with
    | zero => exact fun _ => hx
    | succ d ih =>
      intro hd
      have ih := ih (by omega)
      refine paren_one gu (i := k - (d + 1)) (m := j + k + d) (by omega) (by omega) (isT_of (a1 _ (by omega))) (by rw [show k - (d + 1) + 1 = k - d by omega]; exact ih) (isT_of (a3 d (by omega))) ?_
      by_cases hdk : d + 1 < k
      · exact noOp_rp (isT_of (a3 (d + 1) hdk))
      · have : j + k + d + 1 = j + k + k := by omega
        rw [this]
        exact noOp_end (kind_of a4).1
  have h8 := step k (Nat.le_refl _)
  rw [Nat.sub_self] at h8
  refine ⟨x, ?_, hxe⟩
  rw [exprF_is hlen h1 h8 (kind_of a4).1]
  have h9 := limE_alike hxe
  rw [h.lim] at h9
  cases hq : limE x with
  | none => rfl
  | some y => rw [hq] at h9; cases h9
theorem pair_law {s : List UInt8} {l : List Tok} {e : E} {j : Nat} (hs : s.length ≤ 4000) (h : Whole s l e j) : (exprF (pairT s)).2.e = 2 ∨ ∃ x y a b, exprF (pairT s) = (E.mk 5 0 [] [] [] [x, y] a b, okF) ∧ sE x = sE e ∧ sE y = sE e := by
  obtain ⟨us, h1, h2⟩ := scan_pairT h.sc
  have hlen : (pairT s).length ≤ 20000 := by unfold pairT; simp; omega
  have hfew := scan_few hlen h1
  have gu := hfew.1.good
  have hl := h.len
  have hjl : ((l.map bare).take (l.length - 1)).length = j := by rw [List.length_take, List.length_map]; omega
  have hul : us.length = j + j + 4 := by
    have := congrArg List.length h2
    rw [List.length_map, List.length_append, List.length_append, List.length_append, List.length_append, hjl] at this
    rw [this]
    simp
    omega
  have a1 : bare (tk us 0) = LPb := by rw [← bt_map, h2]; rfl
  have a2 : ∀ i, i < j → bare (tk us (i + 1)) = bare (tk l i) := fun i hi => by
    rw [← bt_map us, h2, bt_append, if_neg (by simp), bt_append, hjl, if_pos (by simp; omega), bt_take _ _ _ (by simp; omega), bt_map]
    rfl
  have a3 : bare (tk us (j + 1)) = CMb := by
    rw [← bt_map us, h2, bt_append, if_neg (by simp), bt_append, hjl, if_neg (by simp), bt_append, if_pos (by simp)]
    simp [bt]
  have a4 : ∀ i, i < j → bare (tk us (i + (j + 2))) = bare (tk l i) := fun i hi => by
    rw [← bt_map us, h2, bt_append, if_neg (by simp), bt_append, hjl, if_neg (by simp; omega), bt_append, if_neg (by simp; omega), bt_append, hjl, if_pos (by simp; omega), bt_take _ _ _ (by simp; omega), bt_map]
    congr 2
    simp
    omega
  have a5 : bare (tk us (j + (j + 2))) = RPb := by
    rw [← bt_map us, h2, bt_append, if_neg (by simp), bt_append, hjl, if_neg (by simp; try omega), bt_append, if_neg (by simp; try omega), bt_append, hjl, if_neg (by simp; try omega)]
    have : j + (j + 2) - [LPb].length - j - [CMb].length - j = 0 := by simp; try omega
    rw [this]
    rfl
  have a6 : bare (tk us (j + (j + 2) + 1)) = ENDb := by
    rw [← bt_map us, h2, bt_append, if_neg (by simp), bt_append, hjl, if_neg (by simp; try omega), bt_append, if_neg (by simp; try omega), bt_append, hjl, if_neg (by simp; try omega)]
    have : j + (j + 2) + 1 - [LPb].length - j - [CMb].length - j = 1 := by simp; try omega
    rw [this]
    rfl
  have k3 := kind_of a3
  have k5 := kind_of a5
  obtain ⟨x, h6, h7⟩ := pw_in (l := l) (l' := us) gu (e := j) (sh := 1) (by omega) a2 h.fin ⟨k3.1, .inr k3.2⟩ h.read
  obtain ⟨y, h8, h9⟩ := pw_in (l := l) (l' := us) gu (e := j) (sh := j + 2) (by omega) a4 h.fin ⟨k5.1, .inl k5.2⟩ h.read
  have h10 := paren_two gu (i := 0) (m := j + 1) (m2 := j + (j + 2)) (by omega) (by omega) (by omega) (isT_of a1) h6 (isT_of a3) h8 (isT_of a5) (noOp_end (kind_of a6).1)
  have h11 := exprF_is hlen h1 h10 (kind_of a6).1
  rw [h11]
  cases hq : limE (E.mk 5 0 [] [] [] [x, y] (tk us 0).line (tk us 0).col) with
  | some z => exact .inl rfl
  | none => exact .inr ⟨x, y, _, _, rfl, h7.symm, h9.symm⟩
end Go.Proofs.Ytbmcafehpgimfaa.Ps
namespace Go.Proofs.Ytbmcafehpgimfaa.Px
set_option linter.unusedVariables false
set_option linter.unusedSimpArgs false
mutual
def sameE : E → E → Bool
  | .mk k n s ns os ks _ _, .mk k' n' s' ns' os' ks' _ _ => (k == k') && ((n == n') && (decide (s = s') && (decide (ns = ns') && (decide (os = os') && sameEs ks ks'))))
def sameEs : List E → List E → Bool
  | [], [] => true
  | x :: a, y :: b => sameE x y && sameEs a b
  | [], _ :: _ => false
  | _ :: _, [] => false
end
mutual
def sameT : T → T → Bool
  | .mk k l, .mk k' l' => (k == k') && sameTs l l'
def sameTs : List T → List T → Bool
  | [], [] => true
  | x :: a, y :: b => sameT x y && sameTs a b
  | [], _ :: _ => false
  | _ :: _, [] => false
end
def eqL {α : Type} (f : α → α → Bool) : List α → List α → Bool
  | [], [] => true
  | x :: a, y :: b => f x y && eqL f a b
  | [], _ :: _ => false
  | _ :: _, [] => false
theorem eqL_len {α : Type} (f : α → α → Bool) : ∀ a b : List α, a.length ≠ b.length → eqL f a b = false
  | [], [], h => absurd rfl h
  | x :: a, y :: b, h => by rw [eqL, eqL_len f a b (by simpa using h), Bool.and_false]
  | [], _ :: _, _ => rfl
  | _ :: _, [], _ => rfl
theorem sameEs_eq : ∀ a b : List E, sameEs a b = eqL sameE a b
  | [], [] => by rw [sameEs, eqL]
  | x :: a, y :: b => by rw [sameEs, eqL, sameEs_eq a b]
  | [], _ :: _ => by rw [sameEs, eqL]
  | _ :: _, [] => by rw [sameEs, eqL]
theorem sameTs_eq : ∀ a b : List T, sameTs a b = eqL sameT a b
  | [], [] => by rw [sameTs, eqL]
  | x :: a, y :: b => by rw [sameTs, eqL, sameTs_eq a b]
  | [], _ :: _ => by rw [sameTs, eqL]
  | _ :: _, [] => by rw [sameTs, eqL]
theorem sameE_eq (a b : E) : sameE a b = ((a.k == b.k) && ((a.n == b.n) && (decide (a.name = b.name) && (decide (a.names = b.names) && (decide (a.odds = b.odds) && eqL sameE a.kids b.kids))))) := by
  cases a; cases b
  rw [sameE, sameEs_eq]
  rfl
theorem sameT_eq (a b : T) : sameT a b = ((a.k == b.k) && eqL sameT a.l b.l) := by
  cases a; cases b
  rw [sameT, sameTs_eq]
  rfl
def sameF (a b : Fld) : Bool := decide (a.name = b.name) && sameT a.typ b.typ
def sameFn (a b : Fnc) : Bool := decide (a.name = b.name) && (eqL sameF a.params b.params && (sameT a.res b.res && sameE a.body b.body))
def sameP (a b : Pg) : Bool := eqL sameF a.inputs b.inputs && (eqL sameFn a.funs b.funs && sameE a.query b.query)
theorem eqL_eq {α : Type} [DecidableEq α] : ∀ a b : List α, eqL (fun x y => decide (x = y)) a b = decide (a = b)
  | [], [] => by simp [eqL]
  | x :: a, y :: b => by rw [eqL, eqL_eq a b]; simp
  | [], _ :: _ => by simp [eqL]
  | _ :: _, [] => by simp [eqL]
/-! Alike but for places is the same. -/
mutual
theorem sameE_alike : ∀ a b : E, sE a = sE b → sameE a b = true
  | .mk k n s ns os ks _ _, .mk k' n' s' ns' os' ks' _ _, h => by
    rw [sE_mk, sE_mk] at h
    injection h with h1 h2 h3 h4 h5 h6
    rw [sameE, h1, h2, h3, h4, h5, sameEs_alike ks ks' h6]
    simp
theorem sameEs_alike : ∀ a b : List E, sEs a = sEs b → sameEs a b = true
  | [], [], _ => by rw [sameEs]
  | x :: a, y :: b, h => by
    rw [sEs_cons, sEs_cons] at h
    injection h with h1 h2
    rw [sameEs, sameE_alike x y h1, sameEs_alike a b h2]
    rfl
  | [], y :: b, h => by rw [sEs_nil, sEs_cons] at h; cases h
  | x :: a, [], h => by rw [sEs_nil, sEs_cons] at h; cases h
end
mutual
theorem sameT_self : ∀ a : T, sameT a a = true
  | .mk k l => by rw [sameT, sameTs_self l]; simp
theorem sameTs_self : ∀ a : List T, sameTs a a = true
  | [] => by rw [sameTs]
  | x :: a => by rw [sameTs, sameT_self x, sameTs_self a]; rfl
end
theorem eqL_alike {α : Type} {f : α → α → Bool} {s : α → α} (H : ∀ a b, s a = s b → f a b = true) : ∀ a b : List α, a.map s = b.map s → eqL f a b = true
  | [], [], _ => rfl
  | x :: a, y :: b, h => by
    rw [List.map_cons, List.map_cons] at h
    injection h with h1 h2
    rw [eqL, H x y h1, eqL_alike H a b h2]
    rfl
  | [], _ :: _, h => by cases h
  | _ :: _, [], h => by cases h
end Go.Proofs.Ytbmcafehpgimfaa.Px
namespace Go.Proofs.Ytbmcafehpgimfaa.Ps
set_option linter.unusedVariables false
set_option linter.unusedSimpArgs false
open Go Go.RowKit Px
open Lx (Tok)

theorem strs_at (ks : List (List UInt8)) (i : Nat) (h : i < ks.length) : (strs ks).getD i [] = [D.str (bx ks[i])] := by
  unfold strs
  rw [rows_getD _ _ _ h, List.getD_eq_getElem?_getD, List.getElem?_eq_getElem h]
  rfl
theorem ints_at (ks : List Int) (i : Nat) (h : i < ks.length) : (ints ks).getD i [] = [D.int IntKind.i64 ks[i]] := by
  unfold ints
  rw [rows_getD _ _ _ h, List.getD_eq_getElem?_getD, List.getElem?_eq_getElem h]
  rfl
theorem beqL_bx (a b : List UInt8) : beqL (bx a).data.toList (bx b).data.toList = decide (a = b) := by
  rw [beqL_eq]
  have e : ∀ l : List UInt8, (bx l).data.toList = l := fun l => by show l.toArray.toList = l; simp
  rw [e, e]
  by_cases h : a = b
  · rw [decide_eq_true h, h]; simp
  · rw [decide_eq_false h]; simpa using h
/-! No list is longer than any list can be. -/
mutual
def LenE : E → Prop
  | .mk _ _ _ ns os ks _ _ => (ns.length ≤ 9223372036854775807 ∧ os.length ≤ 9223372036854775807 ∧ ks.length ≤ 9223372036854775807) ∧ LenEs ks
def LenEs : List E → Prop
  | [] => True
  | x :: r => LenE x ∧ LenEs r
end
mutual
def LenT : T → Prop
  | .mk _ l => l.length ≤ 9223372036854775807 ∧ LenTs l
def LenTs : List T → Prop
  | [] => True
  | x :: r => LenT x ∧ LenTs r
end
structure LenFn (f : Fnc) : Prop where
  par : f.params.length ≤ 9223372036854775807
  typ : ∀ x ∈ f.params, LenT x.typ
  res : LenT f.res
  body : LenE f.body
structure LenP (p : Pg) : Prop where
  inl : p.inputs.length ≤ 9223372036854775807
  inp : ∀ x ∈ p.inputs, LenT x.typ
  fl : p.funs.length ≤ 9223372036854775807
  fn : ∀ x ∈ p.funs, LenFn x
  query : LenE p.query
mutual
theorem lenE_of : ∀ e : E, wE e ≤ 9223372036854775807 → LenE e
  | .mk k n s ns os ks a b, h => by
    rw [wE] at h
    rw [LenE]
    have := wEs_len ks
    exact ⟨⟨by omega, by omega, by omega⟩, lenEs_of ks (by omega)⟩
theorem lenEs_of : ∀ l : List E, wEs l ≤ 9223372036854775807 → LenEs l
  | [], _ => by rw [LenEs]; trivial
  | x :: r, h => by
    rw [wEs] at h
    rw [LenEs]
    exact ⟨lenE_of x (by omega), lenEs_of r (by omega)⟩
end
mutual
theorem lenT_of : ∀ t : T, wT t ≤ 9223372036854775807 → LenT t
  | .mk k l, h => by
    rw [wT] at h
    rw [LenT]
    have := wTs_len l
    exact ⟨by omega, lenTs_of l (by omega)⟩
theorem lenTs_of : ∀ l : List T, wTs l ≤ 9223372036854775807 → LenTs l
  | [], _ => by rw [LenTs]; trivial
  | x :: r, h => by
    rw [wTs] at h
    rw [LenTs]
    exact ⟨lenT_of x (by omega), lenTs_of r (by omega)⟩
end
theorem eqL_drop {α : Type} (f : α → α → Bool) (a b : List α) (i : Nat) (ha : i < a.length) (hb : i < b.length) : eqL f (a.drop i) (b.drop i) = (f a[i] b[i] && eqL f (a.drop (i + 1)) (b.drop (i + 1))) := by
  rw [List.drop_eq_getElem_cons ha, List.drop_eq_getElem_cons hb, eqL]
theorem eqL_end {α : Type} (f : α → α → Bool) (a b : List α) (i : Nat) (ha : a.length ≤ i) (hb : b.length ≤ i) : eqL f (a.drop i) (b.drop i) = true := by
  rw [List.drop_eq_nil_of_le ha, List.drop_eq_nil_of_le hb, eqL]
theorem ne_len {a b : Nat} (h : a ≠ b) : (Int.ofNat a != Int.ofNat b) = true := by
  rw [bne, Bool.not_eq_true', beq_eq_false_iff_ne]
  exact fun e => h (Int.ofNat.inj e)
theorem ne_len' {a b : Nat} (h : a = b) : (Int.ofNat a != Int.ofNat b) = false := by rw [h]; simp
/-- The loop of a comparison of lists: one step for each pair. -/
theorem cmp_loop {α : Type} (f : α → α → Bool) (a b : List α) (hab : a.length = b.length) (ha : a.length ≤ 9223372036854775807) {F : Nat → Nat → Nat → Nat → Option Out}
    {z : Bool} (hend : Ev (fun m k n => F (m + 1) k n a.length) (RV (V.one (bX z))))
    (hstep : ∀ i (h : i < a.length), ∀ r : Bool, Ev (fun m k n => F m k n (i + 1)) (RV (V.one (bX r))) → Ev (fun m k n => F (m + 1) k n i) (RV (V.one (bX (f a[i] b[i] && r))))) :
    ∀ d i, i ≤ a.length → a.length - i = d → Ev (fun m k n => F m k n i) (RV (V.one (bX (eqL f (a.drop i) (b.drop i) && z)))) := by
  intro d
  induction d with
  | zero =>
    intro i hi hd
    obtain rfl : i = a.length := by omega
    rw [eqL_end f a b _ (Nat.le_refl _) (by omega), Bool.true_and]
    exact Ev.step hend
  | succ d ih =>
    intro i hi hd
    have hlt : i < a.length := by omega
    rw [eqL_drop f a b i hlt (by omega), Bool.and_assoc]
    exact Ev.step (hstep i hlt _ (ih (i + 1) (by omega) (by omega)))
theorem C_names (a b : List (List UInt8)) (ha : a.length ≤ 9223372036854775807) : Cal 32 [V.one (X.d (D.list 1 (strs a))), V.one (X.d (D.list 1 (strs b)))] [] (RV (V.one (bX (decide (a = b))))) := by
  refine call32 _ _ ?_
  simp only [e32_eq, strs_len]
  rw [← eqL_eq]
  by_cases h : a.length = b.length
  · refine Ev.no (ne_len' h) ?_
    simp only [q32_0_eq, strs_len]
    have := cmp_loop (fun x y : List UInt8 => decide (x = y)) a b h ha (F := fun m k n i => l32_0 m (Ak k) n (strs a) (strs b) (Int.ofNat a.length) (Int.ofNat i)) (by
        simp only [l32_0_eq]
        exact Ev.no (lt_no _ _ (Nat.le_refl _)) (Ev.of fun m k n => by rw [q32_3_eq])) (fun i hi r hr => by
        simp only [l32_0_eq]
        refine Ev.yes (lt_yes i _ hi) ?_
        simp only [q32_1_eq, tn, strs_at a i hi, strs_at b i (show i < b.length by omega), strs_len]
        refine Ev.yes (in_range i _ hi) (Ev.yes (in_range i _ (by omega)) (Ev.yes rfl (Ev.yes rfl ?_)))
        show Ev (fun m k n => bif !beqL (bx a[i]).data.toList (bx b[i]).data.toList then _ else _) _
        rw [beqL_bx]
        cases decide (a[i] = b[i]) with
        | false => exact Ev.yes rfl (Ev.ret _)
        | true =>
          refine Ev.no rfl ?_
          simp only [q32_2_eq, wrap_up i (show i < 9223372036854775807 by omega)]
          exact hr) _ 0 (Nat.zero_le _) rfl
    rw [Bool.and_true] at this
    exact Ev.diag this
  · rw [eqL_len _ _ _ h]
    exact Ev.yes (ne_len h) (Ev.ret _)
theorem C_odds (a b : List Int) (ha : a.length ≤ 9223372036854775807) : Cal 33 [V.one (X.d (D.list 1 (ints a))), V.one (X.d (D.list 1 (ints b)))] [] (RV (V.one (bX (decide (a = b))))) := by
  refine call33 _ _ ?_
  simp only [e33_eq, ints_len]
  rw [← eqL_eq]
  by_cases h : a.length = b.length
  · refine Ev.no (ne_len' h) ?_
    simp only [q33_0_eq, ints_len]
    have := cmp_loop (fun x y : Int => decide (x = y)) a b h ha (F := fun m k n i => l33_0 m (Ak k) n (ints a) (ints b) (Int.ofNat a.length) (Int.ofNat i)) (by
        simp only [l33_0_eq]
        exact Ev.no (lt_no _ _ (Nat.le_refl _)) (Ev.of fun m k n => by rw [q33_3_eq])) (fun i hi r hr => by
        simp only [l33_0_eq]
        refine Ev.yes (lt_yes i _ hi) ?_
        simp only [q33_1_eq, tn, ints_at a i hi, ints_at b i (show i < b.length by omega), ints_len]
        refine Ev.yes (in_range i _ hi) (Ev.yes (in_range i _ (by omega)) (Ev.yes rfl (Ev.yes rfl ?_)))
        show Ev (fun m k n => bif a[i] != b[i] then _ else _) _
        by_cases hab : a[i] = b[i]
        · rw [decide_eq_true hab]
          refine Ev.no (by rw [hab]; simp) ?_
          simp only [q33_2_eq, wrap_up i (show i < 9223372036854775807 by omega)]
          exact hr
        · rw [decide_eq_false hab]
          exact Ev.yes (by simpa using hab) (Ev.ret _)) _ 0 (Nat.zero_le _) rfl
    rw [Bool.and_true] at this
    exact Ev.diag this
  · rw [eqL_len _ _ _ h]
    exact Ev.yes (ne_len h) (Ev.ret _)
def fdV (f : Fld) : V := V.agg [X.d (D.str (bx f.name)), X.d (D.int IntKind.i64 f.typ.k), X.d (D.list 2 (T.rows f.typ.l)), X.d (D.int IntKind.i64 f.line), X.d (D.int IntKind.i64 f.col)]
theorem C_kids (a b : List E) (ha : a.length ≤ 9223372036854775807) (H : ∀ x ∈ a, ∀ y, Cal 15 [eV x, eV y] [] (RV (V.one (bX (sameE x y))))) :
    Cal 34 [V.one (X.d (D.list 8 (E.rows a))), V.one (X.d (D.list 8 (E.rows b))), V.one (X.fn 15 [])] [] (RV (V.one (bX (eqL sameE a b)))) := by
  refine call34f15 _ _ ?_
  simp only [e34f15_eq, E.rows_len]
  by_cases h : a.length = b.length
  · refine Ev.no (ne_len' h) ?_
    simp only [q34_0_eq, E.rows_len]
    have := cmp_loop sameE a b h ha (F := fun m k n i => l34_0 m (Ak k) n (E.rows b) (E.rows a) (Int.ofNat a.length) (Int.ofNat i)) (by
        simp only [l34_0_eq]
        exact Ev.no (lt_no _ _ (Nat.le_refl _)) (Ev.of fun m k n => by rw [q34_3_eq])) (fun i hi r hr => by
        simp only [l34_0_eq]
        refine Ev.yes (lt_yes i _ hi) ?_
        simp only [q34_1_eq, tn, E.rows_at a i hi, E.rows_at b i (show i < b.length by omega), E.row_eq, E.rows_len]
        refine Ev.yes (in_range i _ hi) (Ev.yes (in_range i _ (by omega)) ?_)
        refine v_oB (H a[i] (List.getElem_mem hi) b[i]) ?_
        cases sameE a[i] b[i] with
        | false => exact Ev.yes rfl (Ev.ret _)
        | true =>
          refine Ev.no rfl ?_
          simp only [q34_2_eq, wrap_up i (show i < 9223372036854775807 by omega)]
          exact hr) _ 0 (Nat.zero_le _) rfl
    rw [Bool.and_true] at this
    exact Ev.diag this
  · rw [eqL_len _ _ _ h]
    exact Ev.yes (ne_len h) (Ev.ret _)
theorem C_types (a b : List T) (ha : a.length ≤ 9223372036854775807) (H : ∀ x ∈ a, ∀ y, Cal 41 [tV x, tV y] [] (RV (V.one (bX (sameT x y))))) :
    Cal 71 [V.one (X.d (D.list 2 (T.rows a))), V.one (X.d (D.list 2 (T.rows b))), V.one (X.fn 41 [])] [] (RV (V.one (bX (eqL sameT a b)))) := by
  refine call71f41 _ _ ?_
  simp only [e71f41_eq, T.rows_len]
  by_cases h : a.length = b.length
  · refine Ev.no (ne_len' h) ?_
    simp only [q71_0_eq, T.rows_len]
    have := cmp_loop sameT a b h ha (F := fun m k n i => l71_0 m (Ak k) n (T.rows b) (T.rows a) (Int.ofNat a.length) (Int.ofNat i)) (by
        simp only [l71_0_eq]
        exact Ev.no (lt_no _ _ (Nat.le_refl _)) (Ev.of fun m k n => by rw [q71_3_eq])) (fun i hi r hr => by
        simp only [l71_0_eq]
        refine Ev.yes (lt_yes i _ hi) ?_
        simp only [q71_1_eq, tn, T.rows_at a i hi, T.rows_at b i (show i < b.length by omega), T.row_eq, T.rows_len]
        refine Ev.yes (in_range i _ hi) (Ev.yes (in_range i _ (by omega)) ?_)
        refine v_oB (H a[i] (List.getElem_mem hi) b[i]) ?_
        cases sameT a[i] b[i] with
        | false => exact Ev.yes rfl (Ev.ret _)
        | true =>
          refine Ev.no rfl ?_
          simp only [q71_2_eq, wrap_up i (show i < 9223372036854775807 by omega)]
          exact hr) _ 0 (Nat.zero_le _) rfl
    rw [Bool.and_true] at this
    exact Ev.diag this
  · rw [eqL_len _ _ _ h]
    exact Ev.yes (ne_len h) (Ev.ret _)
mutual
theorem C_same : ∀ (a b : E), LenE a → Cal 15 [eV a, eV b] [] (RV (V.one (bX (sameE a b))))
  | .mk k n s ns os ks l c, .mk k' n' s' ns' os' ks' l' c', h => by
    rw [LenE] at h
    obtain ⟨⟨hns, hos, hks⟩, hkk⟩ := h
    have H := C_sameAll ks hkk
    rw [sameE_eq]
    refine call15 _ _ _ _ _ _ _ _ _ _ _ _ _ _ _ _ ?_
    simp only [e15_eq]
    show Ev _ (RV (V.one (bX ((k == k') && ((n == n') && (decide (s = s') && (decide (ns = ns') && (decide (os = os') && eqL sameE ks ks'))))))))
    cases h1 : k == k' with
    | false => exact Ev.no h1 (Ev.ret _)
    | true =>
    refine Ev.yes h1 ?_
    cases h2 : n == n' with
    | false => exact Ev.no h2 (Ev.ret _)
    | true =>
    refine Ev.yes h2 ?_
    have h3 := beqL_bx s s'
    cases h4 : decide (s = s') with
    | false => exact Ev.no (h3.trans h4) (Ev.ret _)
    | true =>
    refine Ev.yes (h3.trans h4) ?_
    refine v_oB (C_names ns ns' hns) ?_
    cases h5 : decide (ns = ns') with
    | false => exact Ev.no rfl (Ev.ret _)
    | true =>
    refine Ev.yes rfl ?_
    refine v_oB (C_odds os os' hos) ?_
    cases h6 : decide (os = os') with
    | false => exact Ev.no rfl (Ev.ret _)
    | true =>
    refine Ev.yes rfl ?_
    exact v_oB (C_kids ks ks' hks H) (Ev.ret _)
theorem C_sameAll : ∀ (ks : List E), LenEs ks → ∀ x ∈ ks, ∀ y, Cal 15 [eV x, eV y] [] (RV (V.one (bX (sameE x y))))
  | [], _, x, hx, _ => by cases hx
  | z :: r, hs, x, hx, y => by
    rw [LenEs] at hs
    rcases List.mem_cons.1 hx with h | h
    · rw [h]; exact C_same z y hs.1
    · exact C_sameAll r hs.2 x h y
end
mutual
theorem C_sameT : ∀ (a b : T), LenT a → Cal 41 [tV a, tV b] [] (RV (V.one (bX (sameT a b))))
  | .mk k l, .mk k' l', h => by
    rw [LenT] at h
    obtain ⟨hls, hll⟩ := h
    have H := C_sameTAll l hll
    rw [sameT_eq]
    refine call41 _ _ _ _ ?_
    simp only [e41_eq]
    show Ev _ (RV (V.one (bX ((k == k') && eqL sameT l l'))))
    cases h1 : k == k' with
    | false => exact Ev.no h1 (Ev.ret _)
    | true =>
    refine Ev.yes h1 ?_
    exact v_oB (C_types l l' hls H) (Ev.ret _)
theorem C_sameTAll : ∀ (ks : List T), LenTs ks → ∀ x ∈ ks, ∀ y, Cal 41 [tV x, tV y] [] (RV (V.one (bX (sameT x y))))
  | [], _, x, hx, _ => by cases hx
  | z :: r, hs, x, hx, y => by
    rw [LenTs] at hs
    rcases List.mem_cons.1 hx with h | h
    · rw [h]; exact C_sameT z y hs.1
    · exact C_sameTAll r hs.2 x h y
end
theorem Fld.row_eq (f : Fld) : Fld.row f = [D.str (bx f.name), D.int IntKind.i64 f.typ.k, D.list 2 (T.rows f.typ.l), D.int IntKind.i64 f.line, D.int IntKind.i64 f.col] := rfl
def fncV (f : Fnc) : V := V.agg [X.d (D.str (bx f.name)), X.d (D.list 5 (Fld.rows f.params)), X.d (D.int IntKind.i64 f.res.k), X.d (D.list 2 (T.rows f.res.l)), X.d (D.int IntKind.i64 f.body.k), X.d (D.int IntKind.i64 f.body.n), X.d (D.str (bx f.body.name)), X.d (D.list 1 (strs f.body.names)), X.d (D.list 1 (ints f.body.odds)), X.d (D.list 8 (E.rows f.body.kids)), X.d (D.int IntKind.i64 f.body.line), X.d (D.int IntKind.i64 f.body.col), X.d (D.int IntKind.i64 f.line), X.d (D.int IntKind.i64 f.col)]
end Go.Proofs.Ytbmcafehpgimfaa.Ps
namespace Go.Proofs.Ytbmcafehpgimfaa.Ps
set_option linter.unusedVariables false
set_option linter.unusedSimpArgs false
open Go Go.RowKit Px
open Lx (Tok scan Flt)

def aT (i : Nat) (s : List UInt8) : List UInt8 := List.replicate i 40 ++ (s ++ [10])
def bT (i : Nat) (s : List UInt8) : List UInt8 := s ++ 10 :: List.replicate i 41
theorem aT_len (i : Nat) (s : List UInt8) : (aT i s).length = i + s.length + 1 := by unfold aT; simp; omega
theorem bT_len (i : Nat) (s : List UInt8) : (bT i s).length = s.length + 1 + i := by unfold bT; simp; omega
theorem aT_succ (i : Nat) (s : List UInt8) : ByteArray.mk #[40] ++ bx (aT i s) = bx (aT (i + 1) s) := by
  have : bx [40] ++ bx (aT i s) = bx (aT (i + 1) s) := by rw [bx_append]; rfl
  exact this
theorem bT_succ (i : Nat) (s : List UInt8) : bx (bT i s) ++ ByteArray.mk #[41] = bx (bT (i + 1) s) := by
  have : bx (bT i s) ++ bx [41] = bx (bT (i + 1) s) := by
    rw [bx_append]
    unfold bT
    rw [List.replicate_succ', List.append_assoc]
    rfl
  exact this
theorem u8_up (i : Nat) (h : i < 30) : IntKind.wrap .u8 (Int.ofNat i + 1) = Int.ofNat (i + 1) := by
  have : ∀ j : Fin 30, IntKind.wrap .u8 (Int.ofNat j.1 + 1) = Int.ofNat (j.1 + 1) := by decide
  exact this ⟨i, h⟩
theorem L_brackets (s : List UInt8) (hs : s.length ≤ 4000) (n : Int) (k : Nat) (hk : k < 30) (hn : ∀ i : Nat, i ≤ k → decide (Int.ofNat i < Int.tmod n 30) = decide (i < k)) (e : E) (r : Out)
    (h : Ev (fun m κ n' => q8_3 (Ak κ) n' (bx s) (bx (aT k s)) (bx (bT k s)) e.k e.n (bx e.name) (strs e.names) (ints e.odds) (E.rows e.kids) e.line e.col) r) : ∀ (d i : Nat), i ≤ k → k - i = d →
    Ev (fun m κ n' => l8_0 m (Ak κ) n' (bx s) n (bx (aT i s)) (bx (bT i s)) (Int.ofNat i) e.k e.n (bx e.name) (strs e.names) (ints e.odds) (E.rows e.kids) e.line e.col) r := by
  intro d
  induction d with
  | zero =>
    intro i hi hd
    obtain rfl : i = k := by omega
    refine Ev.step ?_
    simp only [l8_0_eq]
    exact Ev.no ((hn i hi).trans (decide_eq_false (Nat.lt_irrefl _))) h
  | succ d ih =>
    intro i hi hd
    have hlt : i < k := by omega
    refine Ev.step ?_
    simp only [l8_0_eq]
    refine Ev.yes ((hn i hi).trans (decide_eq_true hlt)) ?_
    simp only [q8_1_eq, bx_size, aT_len, bT_len]
    refine Ev.yes (Nat.ble_eq_true_of_le (by omega)) (Ev.yes (Nat.ble_eq_true_of_le (by omega)) ?_)
    simp only [q8_2_eq, aT_succ, bT_succ, u8_up i (by omega)]
    exact ih (i + 1) hlt (by omega)
theorem cut_b (k : Nat) (s : List UInt8) : (bx (bT k s)).extract (s.length + 1) (s.length + 1 + k) = bx (List.replicate k 41) := by
  rw [ext_bx]
  have h1 : (bT k s).take (s.length + 1 + k) = bT k s := List.take_of_length_le (by rw [bT_len]; exact Nat.le_refl _)
  rw [h1]
  congr 1
  unfold bT
  rw [show s ++ 10 :: List.replicate k 41 = (s ++ [10]) ++ List.replicate k 41 by simp]
  rw [show s.length + 1 = (s ++ [10]).length by simp, List.drop_left]
theorem join_b (k : Nat) (s : List UInt8) : bx (aT k s) ++ bx (List.replicate k 41) = bx (opens k s) := by
  rw [bx_append]
  unfold aT opens
  simp
theorem pair_b (s : List UInt8) : ByteArray.mk #[40] ++ bx s ++ ByteArray.mk #[10, 44, 32] ++ bx s ++ ByteArray.mk #[10, 41] = bx (pairT s) := by
  have : bx [40] ++ bx s ++ bx [10, 44, 32] ++ bx s ++ bx [10, 41] = bx (pairT s) := by
    rw [bx_append, bx_append, bx_append, bx_append]
    unfold pairT
    simp
  exact this
theorem lawBrackets (s : List UInt8) (n : Int) : Cal 8 [V.one (X.d (D.str (bx s))), V.one (X.d (D.int IntKind.u8 n))] [] YES := by
  refine call8 _ _ ?_
  simp only [e8_eq, bx_size]
  refine v_t2a8IISL1L1L8IIa4ISII (C_Expr s) ?_
  by_cases hs : 4000 < s.length
  · exact Ev.yes (decide_eq_true (by show (4000 : Int) < Int.ofNat s.length; simp only [Int.ofNat_eq_natCast]; omega)) awake_end
  refine Ev.no (decide_eq_false (by show ¬ (4000 : Int) < Int.ofNat s.length; simp only [Int.ofNat_eq_natCast]; omega)) ?_
  by_cases hg : (exprF s).2.e = 0
  rotate_left
  · exact Ev.yes (by simpa using hg) awake_end
  refine Ev.no (by rw [hg]; rfl) ?_
  obtain ⟨hs2, l, j, hw⟩ := whole_of hg
  simp only [q8_0_eq, bx_size]
  refine Ev.yes (Nat.ble_eq_true_of_le (by omega)) (Ev.yes (Nat.ble_eq_true_of_le (by omega)) ?_)
  obtain ⟨k, hk, hn⟩ : ∃ k : Nat, k < 30 ∧ ∀ i : Nat, i ≤ k → decide (Int.ofNat i < Int.tmod n 30) = decide (i < k) := by
    have h1 : Int.tmod n 30 < 30 := Int.tmod_lt_of_pos n (by decide)
    refine ⟨(Int.tmod n 30).toNat, by omega, fun i hi => decide_eq_decide.2 (by simp only [Int.ofNat_eq_natCast]; omega)⟩
  have ea : bx s ++ ByteArray.mk #[10] = bx (aT 0 s) := (bx_append s [10]).trans rfl
  have eb : bx s ++ ByteArray.mk #[10] = bx (bT 0 s) := (bx_append s [10]).trans rfl
  have hfin : Ev (fun m κ n' => q8_3 (Ak κ) n' (bx s) (bx (aT k s)) (bx (bT k s)) (exprF s).1.k (exprF s).1.n (bx (exprF s).1.name) (strs (exprF s).1.names) (ints (exprF s).1.odds) (E.rows (exprF s).1.kids) (exprF s).1.line (exprF s).1.col) YES := by
    simp only [q8_3_eq, bx_size, bT_len, aT_len, wrap_up s.length (show s.length < 9223372036854775807 by omega)]
    have c1 : (decide ((0 : Int) ≤ Int.ofNat (s.length + 1 + k)) && decide (Int.ofNat (s.length + 1 + k) ≤ Int.ofNat (s.length + 1 + k)) && decide ((0 : Int) ≤ Int.ofNat (s.length + 1)) && decide (Int.ofNat (s.length + 1) ≤ Int.ofNat (s.length + 1 + k))) = true := by
      simp only [Int.ofNat_eq_natCast, Bool.and_eq_true, decide_eq_true_eq]
      omega
    refine Ev.yes c1 ?_
    simp only [Int.ofNat_eq_natCast, Int.toNat_natCast, cut_b, bx_size, List.length_replicate, join_b]
    refine Ev.yes (Nat.ble_eq_true_of_le (by omega)) ?_
    refine v_t2a8IISL1L1L8IIa4ISII (C_Expr (opens k s)) ?_
    have s1 : (ByteArray.mk #[40] ++ bx s).size = 1 + s.length := by have : bx [40] ++ bx s = bx (40 :: s) := bx_append _ _; exact (congrArg ByteArray.size this).trans ((bx_size _).trans (by simp; omega))
    have s2 : (ByteArray.mk #[40] ++ bx s ++ ByteArray.mk #[10, 44, 32]).size = 4 + s.length := by
      have : bx [40] ++ bx s ++ bx [10, 44, 32] = bx (40 :: s ++ [10, 44, 32]) := by rw [bx_append, bx_append]; rfl
      exact (congrArg ByteArray.size this).trans ((bx_size _).trans (by simp; omega))
    have s3 : (ByteArray.mk #[40] ++ bx s ++ ByteArray.mk #[10, 44, 32] ++ bx s).size = 4 + s.length + s.length := by
      have : bx [40] ++ bx s ++ bx [10, 44, 32] ++ bx s = bx (40 :: s ++ [10, 44, 32] ++ s) := by rw [bx_append, bx_append, bx_append]; rfl
      exact (congrArg ByteArray.size this).trans ((bx_size _).trans (by simp; omega))
    refine Ev.yes (Nat.ble_eq_true_of_le (by omega)) ?_
    rw [s1, s2, s3, pair_b]
    refine Ev.yes (Nat.ble_eq_true_of_le (by omega)) (Ev.yes (Nat.ble_eq_true_of_le (by omega)) (Ev.yes (Nat.ble_eq_true_of_le (by omega)) ?_))
    refine v_t2a8IISL1L1L8IIa4ISII (C_Expr (pairT s)) ?_
    obtain ⟨x, hx, hxe⟩ := opens_law hk (by omega) hw
    have wx : wE x ≤ 1000000 := by
      have := (progF_of (s := opens k s) (by rw [hx]; rfl)).2
      rw [hx] at this
      exact this
    rw [hx]
    refine Ev.yes rfl ?_
    refine v_oB (C_same x (exprF s).1 (lenE_of _ (Nat.le_trans wx (by decide)))) ?_
    rw [sameE_alike _ _ hxe]
    refine Ev.yes rfl ?_
    rcases pair_law (by omega) hw with h2 | ⟨y, z, a, b, h2, hy, hz⟩
    · exact Ev.yes (by rw [h2]; rfl) awake_end
    · have wp := (progF_of (s := pairT s) (by rw [h2]; rfl)).2
      rw [h2, wE_mk, wEs_cons, wEs_cons, wEs_nil] at wp
      rw [h2]
      refine Ev.no rfl (Ev.yes rfl (Ev.yes rfl ?_))
      have hk2 : (E.mk 5 0 [] [] [] [y, z] a b).kids = [y, z] := rfl
      simp only [hk2, E.rows_two]
      refine Ev.yes rfl (Ev.yes rfl ?_)
      refine v_oB (C_same y (exprF s).1 (lenE_of _ (by omega))) ?_
      rw [sameE_alike _ _ hy]
      refine Ev.yes rfl (Ev.yes rfl ?_)
      refine v_oB (C_same z (exprF s).1 (lenE_of _ (by omega))) ?_
      rw [sameE_alike _ _ hz]
      exact Ev.yes rfl awake_end
  have := L_brackets s (by omega) n k hk hn (exprF s).1 YES hfin k 0 (Nat.zero_le _) rfl
  rw [← ea, ← eb] at this
  exact Ev.diag this
end Go.Proofs.Ytbmcafehpgimfaa.Ps
