/- Trees and tokens as data of the evaluator. The program's lexer: what the plain scanner tells. From what the rows' condition gives to the evaluator, and back: a law that is true runs so. What the program's readers are to do, as a relation to the small readers; the steps that all share. The program's reader of types. The program's readers: the steps that read an expression, a field, a list; operators. The program's readers of expressions: the loops and the levels. The program's reader of expressions: names, choices, and the head of an expression. The reference's reader: what its readings are to do; the steps that all share. The reference's readers of expressions. The reference's readers of operations. The program's reader of atoms; all readers of expressions, by what is left of the text. The reference's readers of atoms; all of its readers of expressions. The program's lexer over a whole text. The program's readers of fields, functions and programs. What the scanner's tokens are like; reading a whole text, with the panic taken up. How deep an expression, a type and a program go. -/
import Derived.Test.YtbmcafehpgimfaaGreatPv0
import Derived.Test.YtbmcafehpgimfaaGreatXaa
import Derived.Test.YtbmcafehpgimfaaGreatPvL
import Derived.Test.YtbmcafehpgimfaaGreatPw3
import Derived.ProofKit
import Derived.OpenShut
import Derived.Test.YtbmcafehpgimfaaGreatPvP
import Derived.Test.YtbmcafehpgimfaaGreatPvE
import Derived.Test.YtbmcafehpgimfaaGreatPvR
namespace Go.Proofs.YtbmcafehpgimfaaGreat.Ps
set_option linter.unusedVariables false
set_option linter.unusedSimpArgs false
open Go Go.RowKit Px
open Lx (Tok)

def bx (l : List UInt8) : ByteArray := ⟨l.toArray⟩
theorem bx_data (l : List UInt8) : (bx l).data.toList = l := by simp [bx]
theorem bx_self (s : ByteArray) : bx s.data.toList = s := by
  obtain ⟨⟨l⟩⟩ := s
  rfl
theorem bx_size (l : List UInt8) : (bx l).size = l.length := by simp [bx, ByteArray.size]
theorem bx_append (a b : List UInt8) : bx a ++ bx b = bx (a ++ b) := by
  apply ByteArray.ext
  rw [ByteArray.data_append]
  simp [bx]
theorem beqL_eq (a b : List UInt8) : beqL a b = (a == b) := by
  rw [Bool.eq_iff_iff, beqL_iff, beq_iff_eq]
def Tok.row (t : Tok) : List D := [.int .i64 t.kind, .str (bx t.text), .int .i64 t.n, .int .i64 t.line, .int .i64 t.col]
def toks (l : List Tok) : List (List D) := l.map Tok.row
theorem toks_len (l : List Tok) : (toks l).length = l.length := List.length_map ..
theorem toks_at (l : List Tok) (i : Nat) (h : i < l.length) : (toks l).getD i [] = Tok.row (tk l i) := by
  unfold toks tk
  rw [List.getD_eq_getElem?_getD, List.getD_eq_getElem?_getD, List.getElem?_map, List.getElem?_eq_getElem h]
  rfl
def strs (l : List (List UInt8)) : List (List D) := l.map fun s => [.str (bx s)]
def ints (l : List Int) : List (List D) := l.map fun n => [.int .i64 n]
mutual
def T.row : T → List D
  | .mk k l => [.int .i64 k, .list 2 (T.rows l)]
def T.rows : List T → List (List D)
  | [] => []
  | t :: r => T.row t :: T.rows r
end
mutual
def E.row : E → List D
  | .mk k n s ns os ks a b => [.int .i64 k, .int .i64 n, .str (bx s), .list 1 (strs ns), .list 1 (ints os), .list 8 (E.rows ks), .int .i64 a, .int .i64 b]
def E.rows : List E → List (List D)
  | [] => []
  | t :: r => E.row t :: E.rows r
end
def Fld.row (f : Fld) : List D := [.str (bx f.name), .int .i64 f.typ.k, .list 2 (T.rows f.typ.l), .int .i64 f.line, .int .i64 f.col]
def Fld.rows (l : List Fld) : List (List D) := l.map Fld.row
def Fnc.row (f : Fnc) : List D := [.str (bx f.name), .list 5 (Fld.rows f.params), .int .i64 f.res.k, .list 2 (T.rows f.res.l)] ++ E.row f.body ++ [.int .i64 f.line, .int .i64 f.col]
def Fnc.rows (l : List Fnc) : List (List D) := l.map Fnc.row
theorem T.row_eq (t : T) : T.row t = [.int .i64 t.k, .list 2 (T.rows t.l)] := by cases t; rw [T.row]; rfl
theorem E.row_eq (e : E) : E.row e = [.int .i64 e.k, .int .i64 e.n, .str (bx e.name), .list 1 (strs e.names), .list 1 (ints e.odds), .list 8 (E.rows e.kids), .int .i64 e.line, .int .i64 e.col] := by cases e; rw [E.row]; rfl
theorem T.rows_map : ∀ l : List T, T.rows l = l.map T.row
  | [] => by rw [T.rows]; rfl
  | t :: r => by rw [T.rows, T.rows_map r]; rfl
theorem E.rows_map : ∀ l : List E, E.rows l = l.map E.row
  | [] => by rw [E.rows]; rfl
  | t :: r => by rw [E.rows, E.rows_map r]; rfl
theorem rows_getD {α : Type} [Inhabited α] (f : α → List D) (l : List α) (i : Nat) (h : i < l.length) : (l.map f).getD i [] = f (l.getD i default) := by
  rw [List.getD_eq_getElem?_getD, List.getD_eq_getElem?_getD, List.getElem?_map, List.getElem?_eq_getElem h]
  rfl
abbrev iX (n : Int) : X := X.d (D.int IntKind.i64 n)
abbrev sX (s : List UInt8) : X := X.d (D.str (bx s))
abbrev bX (b : Bool) : X := X.d (D.bool b)
def eV (e : E) : V := V.agg [X.d (D.int IntKind.i64 e.k), X.d (D.int IntKind.i64 e.n), X.d (D.str (bx e.name)), X.d (D.list 1 (strs e.names)), X.d (D.list 1 (ints e.odds)), X.d (D.list 8 (E.rows e.kids)), X.d (D.int IntKind.i64 e.line), X.d (D.int IntKind.i64 e.col)]
def tV (t : T) : V := V.agg [X.d (D.int IntKind.i64 t.k), X.d (D.list 2 (T.rows t.l))]
def fV (f : Fld) : V := V.agg [X.d (D.str (bx f.name)), X.d (D.int IntKind.i64 f.typ.k), X.d (D.list 2 (T.rows f.typ.l)), X.d (D.int IntKind.i64 f.line), X.d (D.int IntKind.i64 f.col)]
def kV (t : Tok) : V := V.agg [X.d (D.int IntKind.i64 t.kind), X.d (D.str (bx t.text)), X.d (D.int IntKind.i64 t.n), X.d (D.int IntKind.i64 t.line), X.d (D.int IntKind.i64 t.col)]
theorem wrap_in (n : Int) (h : -9223372036854775808 ≤ n) (h' : n ≤ 9223372036854775807) : IntKind.wrap .i64 n = n := by
  have e1 : IntKind.bits .i64 = 64 := rfl
  have e2 : IntKind.signed .i64 = true := rfl
  have e3 : (2 ^ 64 : Int) = 18446744073709551616 := rfl
  have e4 : (2 ^ 63 : Int) = 9223372036854775808 := rfl
  unfold IntKind.wrap
  simp only [e1, e2, e3, e4, Bool.true_and, decide_eq_true_eq, ge_iff_le]
  omega
theorem wrap_up (i : Nat) (h : i < 9223372036854775807) : IntKind.wrap .i64 (Int.ofNat i + 1) = Int.ofNat (i + 1) := wrap_in _ (by have := Int.natCast_nonneg i; simp only [Int.ofNat_eq_natCast]; omega) (by simp only [Int.ofNat_eq_natCast]; omega)
theorem lt_yes (i n : Nat) (h : i < n) : decide (Int.ofNat i < Int.ofNat n) = true := decide_eq_true (Int.ofNat_lt.2 h)
theorem lt_no (i n : Nat) (h : n ≤ i) : decide (Int.ofNat i < Int.ofNat n) = false := decide_eq_false (fun k => by have := Int.ofNat_lt.1 k; omega)
theorem in_range (i n : Nat) (h : i < n) : (decide ((0 : Int) ≤ Int.ofNat i) && decide (Int.ofNat i < Int.ofNat n)) = true := by
  simp only [Int.ofNat_eq_natCast, Bool.and_eq_true, decide_eq_true_eq]
  omega
theorem tn (i : Nat) : Int.toNat (Int.ofNat i) = i := rfl
end Go.Proofs.YtbmcafehpgimfaaGreat.Ps
namespace Go.Proofs.YtbmcafehpgimfaaGreat.Ps
set_option linter.unusedVariables false
set_option linter.unusedSimpArgs false
set_option maxRecDepth 4000
open Go Go.RowKit Px Lx

def tokV : Lx.R → V
  | .ok k w n => V.tup [V.agg [iX k, sX w, iX n, iX 0, iX 0], V.one (iX 0)]
  | .bad e w => V.tup [V.agg [iX 0, sX w, iX 0, iX 0, iX 0], V.one (iX e)]
abbrev RV (v : V) : Out := ⟨true, v, D.junk, [], 0⟩
theorem mem_takeWhile (p : UInt8 → Bool) : ∀ (l : List UInt8) (x : UInt8), x ∈ l.takeWhile p → p x = true
  | [], x, h => by simp at h
  | c :: t, x, h => by
    by_cases hc : p c = true
    · rw [List.takeWhile_cons_of_pos hc] at h
      rcases List.mem_cons.1 h with h | h
      · rw [h]; exact hc
      · exact mem_takeWhile p t x h
    · rw [List.takeWhile_cons_of_neg hc] at h; simp at h
theorem drop_cases (l : List UInt8) (i : Nat) (hi : i ≤ l.length) : (i = l.length ∧ l.drop i = []) ∨ (i < l.length ∧ ∃ c t, l.drop i = c :: t ∧ l.drop (i + 1) = t) := by
  by_cases h : i < l.length
  · refine .inr ⟨h, l[i], l.drop (i + 1), List.drop_eq_getElem_cons h, rfl⟩
  · exact .inl ⟨by omega, List.drop_eq_nil_of_le (by omega)⟩
theorem ext_bx (l : List UInt8) (a b : Nat) : (bx l).extract a b = bx ((l.take b).drop a) := by
  apply ByteArray.ext
  rw [ByteArray.data_extract]
  simp [bx, List.drop_take]
theorem get_bx (l : List UInt8) (i : Nat) (c : UInt8) (t : List UInt8) (h : l.drop i = c :: t) : ByteArray.get! (bx l) (Int.toNat (Int.ofNat i)) = c := by
  have hi : i < l.length := by
    by_cases hi : i < l.length
    · exact hi
    · rw [List.drop_eq_nil_of_le (by omega)] at h; cases h
  have h2 : l[i] = c := by
    rw [List.drop_eq_getElem_cons hi] at h
    injection h
  show (bx l).data[i]! = c
  have : (bx l).data = l.toArray := rfl
  rw [this, getElem!_pos _ _ (by simpa using hi)]
  simpa using h2
theorem get_bx0 (c : UInt8) (t : List UInt8) : ByteArray.get! (bx (c :: t)) 0 = c := get_bx (c :: t) 0 c t rfl
theorem C_small (c : UInt8) : Cal 77 [V.one (X.d (D.int IntKind.u8 (Int.ofNat c.toNat)))] [] (RV (V.one (bX (sm c)))) := by
  refine call77 _ (Ev.of fun m k n => ?_)
  rw [e77_eq]
  unfold sm
  have e1 : decide (Int.ofNat c.toNat ≥ 97) = decide (97 ≤ c.toNat) := decide_eq_decide.2 (by simp only [Int.ofNat_eq_natCast]; omega)
  have e2 : decide (Int.ofNat c.toNat ≤ 122) = decide (c.toNat ≤ 122) := decide_eq_decide.2 (by simp only [Int.ofNat_eq_natCast]; omega)
  rw [e1, e2]
  cases decide (97 ≤ c.toNat) <;> rfl
theorem C_digit (c : UInt8) : Cal 78 [V.one (X.d (D.int IntKind.u8 (Int.ofNat c.toNat)))] [] (RV (V.one (bX (dg c)))) := by
  refine call78 _ (Ev.of fun m k n => ?_)
  rw [e78_eq]
  unfold dg
  have e1 : decide (Int.ofNat c.toNat ≥ 48) = decide (48 ≤ c.toNat) := decide_eq_decide.2 (by simp only [Int.ofNat_eq_natCast]; omega)
  have e2 : decide (Int.ofNat c.toNat ≤ 57) = decide (c.toNat ≤ 57) := decide_eq_decide.2 (by simp only [Int.ofNat_eq_natCast]; omega)
  rw [e1, e2]
  cases decide (48 ≤ c.toNat) <;> rfl
theorem lib_step {f : FuncId} {args : List V} {rows : List (List Lf × List X)} {k : Nat} (h : progV f = none) : Ak (k + 1) false f args rows = libV (Ak k false) f args rows := by
  have e : Ak (k + 1) false f args rows = (match progV f with
    | some fn => cond (Nat.beq args.length fn.nparams) (runF (Ak k) shp rc false (shp f) fn k args rows) none
    | none => cond false none (libV (Ak k false) f args rows)) := rfl
  rw [e, h]
  rfl
theorem C_lcontains (s t : ByteArray) (h : s.size < 4294967281) : Cal 79 [V.one (X.d (D.str s)), V.one (X.d (D.str t))] [] (RV (V.one (bX (Lib.contains s.data.toList t.data.toList)))) := by
  refine ⟨1, fun m k n h1 h2 h3 => ?_⟩
  obtain ⟨k, rfl⟩ : ∃ k', k = k' + 1 := ⟨k - 1, by omega⟩
  refine (lib_step (by kernel_rfl)).trans ?_
  show cond (Nat.blt s.size 4294967281) _ none = _
  rw [show Nat.blt s.size 4294967281 = true from Nat.ble_eq_true_of_le h]
  rfl
theorem C_lindex (s : ByteArray) (c : Int) : Cal 88 [V.one (X.d (D.str s)), V.one (X.d (D.int IntKind.u8 c))] [] (RV (V.one (iX (Lib.indexByte s.data.toList c.toNat.toUInt8)))) := by
  refine ⟨1, fun m k n h1 h2 h3 => ?_⟩
  obtain ⟨k, rfl⟩ : ∃ k', k = k' + 1 := ⟨k - 1, by omega⟩
  refine (lib_step (by kernel_rfl)).trans ?_
  rfl

section
variable {x2 x3 x4 x5 x6 x7 : Int} {s3 s4 : ByteArray}
theorem L_word (l : List UInt8) (hl : l.length ≤ 1000000) : ∀ (d i : Nat), i ≤ l.length → l.length - i = d → ∀ r, Ev (fun m k n => q59_1 (Ak k) n (bx l) (Int.ofNat (i + ((l.drop i).takeWhile nm).length)) x2 s3 x4 x5 x6) r →
    Ev (fun m k n => l59_0 m (Ak k) n (bx l) (Int.ofNat i) x2 s3 x4 x5 x6) r := by
  intro d
  induction d with
  | zero =>
    intro i hi hd r h
    rw [List.drop_eq_nil_of_le (by omega)] at h
    refine Ev.step ?_
    simp only [l59_0_eq]
    exact Ev.no (lt_no i _ (by rw [bx_size]; omega)) h
  | succ d ih =>
    intro i hi hd r h
    rcases drop_cases l i hi with ⟨e, _⟩ | ⟨hlt, c, t, hc, ht⟩
    · omega
    · have hb := get_bx l i c t hc
      rw [hc] at h
      refine Ev.step ?_
      simp only [l59_0_eq, hb]
      refine Ev.yes (lt_yes i _ (by rw [bx_size]; exact hlt)) (Ev.yes (in_range i _ (by rw [bx_size]; exact hlt)) ?_)
      refine v_oB (C_small c) ?_
      by_cases hn : nm c = true
      · rw [List.takeWhile_cons_of_pos hn] at h
        have h2 := ih (i + 1) (by omega) (by omega) r (by rw [ht]; simpa [Nat.add_assoc, Nat.add_comm 1] using h)
        have go : Ev (fun m k n => q59_0 (Ak k) m n (bx l) (Int.ofNat i) x2 s3 x4 x5 x6) r := by
          simp only [q59_0_eq, wrap_up i (show i < 9223372036854775807 by omega)]
          exact h2
        cases h1 : sm c with
        | true => exact Ev.yes rfl go
        | false =>
          refine Ev.no rfl (Ev.yes (in_range i _ (by rw [bx_size]; exact hlt)) (v_oB (C_digit c) ?_))
          cases h3 : dg c with
          | true => exact Ev.yes rfl go
          | false =>
            refine Ev.no rfl (Ev.yes (in_range i _ (by rw [bx_size]; exact hlt)) (Ev.yes ?_ go))
            rw [beq_iff_eq]
            simp [nm, h1, h3] at hn
            rw [hn]; rfl
      · rw [List.takeWhile_cons_of_neg hn] at h
        have h1 : sm c = false := by
          cases e : sm c
          · rfl
          · exact absurd (sm_nm e) hn
        have h3 : dg c = false := by
          cases e : dg c
          · rfl
          · exact absurd (by simp [nm, e]) hn
        rw [h1]
        refine Ev.no rfl (Ev.yes (in_range i _ (by rw [bx_size]; exact hlt)) (v_oB (C_digit c) ?_))
        rw [h3]
        refine Ev.no rfl (Ev.yes (in_range i _ (by rw [bx_size]; exact hlt)) (Ev.no ?_ h))
        rw [beq_eq_false_iff_ne]
        intro e
        refine hn ?_
        have : c.toNat = 95 := by
          have e' : ((c.toNat : Nat) : Int) = 95 := e
          omega
        simp [nm, this]
theorem cut_ok (l : List UInt8) (n : Nat) (hn : n ≤ l.length) : (decide ((0 : Int) ≤ Int.ofNat n) && decide (Int.ofNat n ≤ Int.ofNat (bx l).size) && true && decide ((0 : Int) ≤ Int.ofNat n)) = true := by
  rw [bx_size]
  simp only [Int.ofNat_eq_natCast, Bool.and_eq_true, decide_eq_true_eq, and_true]
  omega
theorem Q_word (l : List UInt8) (n : Nat) (hl : l.length ≤ 1000000) (hn : n ≤ l.length) (hw : ∀ c ∈ l.take n, nm c = true) (hne : l.take n ≠ []) :
    Ev (fun _ k m => q59_1 (Ak k) m (bx l) (Int.ofNat n) x2 s3 x4 x5 x6) (RV (tokV (if 24 < n then .bad 2 (l.take n) else if isWord (l.take n) then .ok 2 (l.take n) 0 else .ok 1 (l.take n) 0))) := by
  have he : (bx l).extract 0 (Int.toNat (Int.ofNat n)) = bx (l.take n) := by rw [ext_bx]; rfl
  simp only [q59_1_eq, he]
  by_cases h : 24 < n
  · rw [if_pos h]
    exact Ev.yes (decide_eq_true (by show (24 : Int) < Int.ofNat n; simp only [Int.ofNat_eq_natCast]; omega)) (Ev.yes (cut_ok l n hn) (Ev.ret _))
  · rw [if_neg h]
    refine Ev.no (decide_eq_false (by show ¬ (24 : Int) < Int.ofNat n; simp only [Int.ofNat_eq_natCast]; omega)) ?_
    simp only [q59_2_eq, he]
    refine Ev.yes (cut_ok l n hn) (Ev.yes (Nat.ble_eq_true_of_le (by rw [bx_size, List.length_take]; omega)) (Ev.yes (Nat.ble_eq_true_of_le ?_) ?_))
    · show (bx [32] ++ bx (l.take n)).size + 1 ≤ _
      rw [bx_append, bx_size, List.length_append, List.length_take, List.length_singleton]; omega
    have hc := C_lcontains (bx wordText) (bx [32] ++ bx (l.take n) ++ bx [32]) (by rw [bx_size]; decide)
    have e1 : Lib.contains (bx wordText).data.toList (bx [32] ++ bx (l.take n) ++ bx [32]).data.toList = isWord (l.take n) := by
      rw [bx_append, bx_append, bx_data, bx_data, ← contains_isWord _ hw hne]
      simp
    rw [e1] at hc
    refine v_oB hc ?_
    cases hi : isWord (l.take n) with
    | true => exact Ev.yes rfl (Ev.yes (cut_ok l n hn) (Ev.ret _))
    | false =>
      refine Ev.no rfl ?_
      simp only [q59_3_eq, he]
      exact Ev.yes (cut_ok l n hn) (Ev.ret _)
def cap (v : Nat) : Int := if (v : Int) ≤ 2147483647 then (v : Int) else 2147483648
theorem wrap_u8 (n : Int) (h : 0 ≤ n) (h' : n < 256) : IntKind.wrap .u8 n = n := by
  have e1 : IntKind.bits .u8 = 8 := rfl
  have e2 : IntKind.signed .u8 = false := rfl
  have e3 : (2 ^ 8 : Int) = 256 := rfl
  unfold IntKind.wrap
  simp only [e1, e2, e3, Bool.false_and]
  rw [Int.emod_eq_of_lt h h']
  rfl
theorem cap_next (v : Nat) (c : UInt8) (h : 48 ≤ c.toNat) (h' : c.toNat ≤ 57) :
    (if 2147483648 < IntKind.wrap .i64 (IntKind.wrap .i64 (cap v * 10) + IntKind.wrap .i64 (IntKind.wrap .u8 (Int.ofNat c.toNat - 48))) then (2147483648 : Int) else IntKind.wrap .i64 (IntKind.wrap .i64 (cap v * 10) + IntKind.wrap .i64 (IntKind.wrap .u8 (Int.ofNat c.toNat - 48)))) = cap (v * 10 + (c.toNat - 48)) := by
  have hc : 0 ≤ cap v ∧ cap v ≤ 2147483648 := by unfold cap; split <;> omega
  simp only [Int.ofNat_eq_natCast]
  rw [wrap_u8 _ (by omega) (by omega), wrap_in ((c.toNat : Int) - 48) (by omega) (by omega), wrap_in (cap v * 10) (by omega) (by omega), wrap_in _ (by omega) (by omega)]
  unfold cap
  split <;> split <;> split <;> omega
theorem L_digits (l : List UInt8) (hl : l.length ≤ 1000000) : ∀ (d i : Nat), i ≤ l.length → l.length - i = d → (∀ c ∈ l.take i, dg c = true) →
    ∀ r, Ev (fun m k n => q59_6 (Ak k) n (bx l) (Int.ofNat (i + ((l.drop i).takeWhile dg).length)) (cap (val (l.take (i + ((l.drop i).takeWhile dg).length)))) x3 s4 x5 x6 x7) r →
    Ev (fun m k n => l59_1 m (Ak k) n (bx l) (Int.ofNat i) (cap (val (l.take i))) x3 s4 x5 x6 x7) r := by
  intro d
  induction d with
  | zero =>
    intro i hi hd hw r h
    rw [List.drop_eq_nil_of_le (by omega)] at h
    refine Ev.step ?_
    simp only [l59_1_eq]
    exact Ev.no (lt_no i _ (by rw [bx_size]; omega)) h
  | succ d ih =>
    intro i hi hd hw r h
    rcases drop_cases l i hi with ⟨e, _⟩ | ⟨hlt, c, t, hc, ht⟩
    · omega
    · have hb := get_bx l i c t hc
      have hlc : l[i] = c := by
        rw [List.drop_eq_getElem_cons hlt] at hc
        injection hc
      have hsn : l.take (i + 1) = l.take i ++ [c] := by rw [List.take_succ_eq_append_getElem hlt, hlc]
      rw [hc] at h
      refine Ev.step ?_
      simp only [l59_1_eq, hb]
      refine Ev.yes (lt_yes i _ (by rw [bx_size]; exact hlt)) (Ev.yes (in_range i _ (by rw [bx_size]; exact hlt)) ?_)
      refine v_oB (C_digit c) ?_
      by_cases hn : dg c = true
      · rw [List.takeWhile_cons_of_pos hn] at h
        have h48 : 48 ≤ c.toNat ∧ c.toNat ≤ 57 := by simpa [dg] using hn
        have h2 := ih (i + 1) (by omega) (by omega) (by rw [hsn]; intro x hx; rcases List.mem_append.1 hx with hx | hx; exact hw x hx; rw [List.mem_singleton.1 hx]; exact hn) r
          (by rw [ht]; simpa [Nat.add_assoc, Nat.add_comm 1] using h)
        rw [hsn, val_snoc] at h2
        refine Ev.yes hn ?_
        simp only [q59_4_eq, hb, cap_next _ c h48.1 h48.2]
        refine Ev.yes (in_range i _ (by rw [bx_size]; exact hlt)) ?_
        simp only [q59_5_eq, wrap_up i (show i < 9223372036854775807 by omega)]
        exact h2
      · rw [List.takeWhile_cons_of_neg hn] at h
        exact Ev.no (by simpa using hn) h
theorem Q_digits (l : List UInt8) (n : Nat) (hn : n ≤ l.length) :
    Ev (fun _ k m => q59_6 (Ak k) m (bx l) (Int.ofNat n) (cap (val (l.take n))) x3 s4 x5 x6 x7) (RV (tokV (if 2147483647 < val (l.take n) then .bad 2 (l.take n) else .ok 3 (l.take n) (val (l.take n))))) := by
  have he : (bx l).extract 0 (Int.toNat (Int.ofNat n)) = bx (l.take n) := by rw [ext_bx]; rfl
  simp only [q59_6_eq, he]
  generalize val (l.take n) = v
  by_cases h : 2147483647 < v
  · have hc : cap v = 2147483648 := by unfold cap; rw [if_neg (by omega)]
    rw [if_pos h, hc]
    exact Ev.yes rfl (Ev.yes (cut_ok l n hn) (Ev.ret _))
  · have hc : cap v = (v : Int) := by unfold cap; rw [if_pos (by omega)]
    rw [if_neg h, hc]
    refine Ev.no (decide_eq_false (by show ¬ (2147483647 : Int) < (v : Int); omega)) ?_
    simp only [q59_7_eq, he]
    exact Ev.yes (cut_ok l n hn) (Ev.ret _)

theorem C_prefix (l p : List UInt8) : Cal 87 [V.one (X.d (D.str (bx l))), V.one (X.d (D.str (bx p)))] [] (RV (V.one (bX (l.take p.length == p)))) := by
  refine call87 _ _ ?_
  simp only [e87_eq]
  have h : Cal 94 [V.one (X.d (D.str (bx l))), V.one (X.d (D.str (bx p)))] [] (RV (V.one (bX (l.take p.length == p)))) := by
    refine call94 _ _ ?_
    simp only [e94_eq, bx_size]
    by_cases hle : p.length ≤ l.length
    · refine Ev.yes (decide_eq_true (by show Int.ofNat p.length ≤ Int.ofNat l.length; exact Int.ofNat_le.2 hle)) (Ev.yes ?_ (Ev.of fun m k n => ?_))
      · simp only [Int.ofNat_eq_natCast, Bool.and_eq_true, decide_eq_true_eq, and_true]
        omega
      · rw [beqL_eq, ext_bx, bx_data, bx_data]
        rfl
    · refine Ev.no (decide_eq_false (by show ¬ Int.ofNat p.length ≤ Int.ofNat l.length; simp only [Int.ofNat_eq_natCast]; omega)) (Ev.of fun m k n => ?_)
      have : (l.take p.length == p) = false := by
        rw [beq_eq_false_iff_ne]
        intro e
        have := congrArg List.length e
        rw [List.length_take] at this
        omega
      rw [this]
  exact v_oB h (Ev.ret _)
theorem L_sign (l : List UInt8) (hne : l ≠ []) : ∀ (d i : Nat), i ≤ 4 → 4 - i = d →
    Ev (fun m k n => l80_0 m (Ak k) n (bx l) (strs twos) 4 (Int.ofNat i)) (RV (V.one (sX (if has (twos.drop i) (l.take 2) then l.take 2 else if hasB ones (l.headD 0) then l.take 1 else [])))) := by
  intro d
  induction d with
  | zero =>
    intro i hi hd
    obtain rfl : i = 4 := by omega
    obtain ⟨c, t, rfl⟩ : ∃ c t, l = c :: t := by cases l with | nil => exact absurd rfl hne | cons c t => exact ⟨c, t, rfl⟩
    refine Ev.step ?_
    simp only [l80_0_eq, q80_2_eq, get_bx0]
    have hp : decide ((0 : Int) < Int.ofNat (bx (c :: t)).size) = true := decide_eq_true (by rw [bx_size]; simp only [List.length_cons, Int.ofNat_eq_natCast]; omega)
    have hp1 : decide ((1 : Int) ≤ Int.ofNat (bx (c :: t)).size) = true := decide_eq_true (by rw [bx_size]; simp only [List.length_cons, Int.ofNat_eq_natCast]; omega)
    refine Ev.no rfl (Ev.yes (by rw [hp]; rfl) ?_)
    have hi := C_lindex (bx ones) (Int.ofNat c.toNat)
    rw [show (Int.ofNat c.toNat).toNat.toUInt8 = c by simp, bx_data] at hi
    refine v_oI hi ?_
    have hz := indexByte_has ones c
    have drop4 : ¬ (has (twos.drop 4) ((c :: t).take 2) = true) := fun h => by cases h
    rw [if_neg drop4]
    by_cases h : hasB ones c = true
    · rw [if_pos (show hasB ones ((c :: t).headD 0) = true from h)]
      refine Ev.yes (decide_eq_true (hz.2 h)) (Ev.yes (by rw [hp1]; rfl) (Ev.of fun m k n => ?_))
      rw [ext_bx]
      rfl
    · rw [if_neg (show ¬ hasB ones ((c :: t).headD 0) = true from h)]
      refine Ev.no (decide_eq_false fun e => h (hz.1 e)) ?_
      exact Ev.of fun m k n => by rw [q80_3_eq]; rfl
  | succ d ih =>
    intro i hi hd
    have hlt : i < twos.length := by show i < 4; omega
    have h2 := ih (i + 1) (by omega) (by omega)
    have hdr : twos.drop i = twos[i] :: twos.drop (i + 1) := List.drop_eq_getElem_cons hlt
    have hlen : twos[i].length = 2 := by
      have : ∀ x ∈ twos, x.length = 2 := by decide
      exact this _ (List.getElem_mem hlt)
    have hat : (strs twos).getD i [] = [D.str (bx twos[i])] := by
      unfold strs
      rw [rows_getD _ _ _ hlt, List.getD_eq_getElem?_getD, List.getElem?_eq_getElem hlt]
      rfl
    refine Ev.step ?_
    simp only [l80_0_eq]
    refine Ev.yes (lt_yes i 4 (by omega)) ?_
    simp only [q80_0_eq, tn, hat]
    refine Ev.yes (in_range i _ (by rw [show (strs twos).length = 4 from rfl]; omega)) ?_
    refine v_oB (C_prefix l twos[i]) ?_
    rw [hdr, hlen]
    by_cases h : l.take 2 = twos[i]'hlt
    · refine Ev.yes (by rw [h]; simp) (Ev.of fun m k n => ?_)
      rw [has_yes _ h, if_pos rfl, h]
      rfl
    · refine Ev.no (by simpa using h) ?_
      rw [has_no _ h]
      simp only [q80_1_eq, wrap_up i (show i < 9223372036854775807 by omega)]
      exact h2
theorem C_sign (l : List UInt8) (hne : l ≠ []) : Cal 80 [V.one (X.d (D.str (bx l)))] [] (RV (V.one (sX (sgn l)))) := by
  refine call80 _ ?_
  simp only [e80_eq]
  exact Ev.diag (L_sign l hne 4 0 (by omega) (by omega))

theorem C_one (l : List UInt8) (hne : l ≠ []) (hl : l.length ≤ 1000000) : Cal 59 [V.one (X.d (D.str (bx l)))] [] (RV (tokV (Lx.tok l))) := by
  obtain ⟨c, t, rfl⟩ : ∃ c t, l = c :: t := by cases l with | nil => exact absurd rfl hne | cons c t => exact ⟨c, t, rfl⟩
  have hp : (true && decide ((0 : Int) < Int.ofNat (bx (c :: t)).size)) = true := by rw [Bool.true_and]; exact decide_eq_true (by rw [bx_size]; simp only [List.length_cons, Int.ofNat_eq_natCast]; omega)
  have hp1 : (true && decide ((1 : Int) ≤ Int.ofNat (bx (c :: t)).size) && true && true) = true := by rw [Bool.true_and, Bool.and_true, Bool.and_true]; exact decide_eq_true (by rw [bx_size]; simp only [List.length_cons, Int.ofNat_eq_natCast]; omega)
  refine call59 _ ?_
  simp only [e59_eq, get_bx0]
  refine Ev.yes hp (v_oB (C_small c) ?_)
  unfold Lx.tok
  show Ev _ (RV (tokV (if sm c then _ else if dg c then _ else _)))
  by_cases h1 : sm c = true
  · rw [if_pos h1]
    have hn := takeWhile_len nm (c :: t)
    have hle : ((c :: t).takeWhile nm).length ≤ (c :: t).length := (List.takeWhile_sublist nm).length_le
    refine Ev.yes h1 (Ev.diag (L_word (c :: t) hl _ 0 (by omega) rfl _ ?_))
    have hq := fun (x2 : Int) (s3 : ByteArray) (x4 x5 x6 : Int) => Q_word (x2 := x2) (s3 := s3) (x4 := x4) (x5 := x5) (x6 := x6) (c :: t) ((c :: t).takeWhile nm).length hl hle (by rw [hn]; exact fun x hx => mem_takeWhile nm _ x hx) (by rw [hn, List.takeWhile_cons_of_pos (sm_nm h1)]; simp)
    rw [hn] at hq
    rw [List.drop_zero, Nat.zero_add]
    exact hq _ _ _ _ _
  · rw [if_neg h1]
    refine Ev.no (by simpa using h1) (Ev.yes hp (v_oB (C_digit c) ?_))
    by_cases h2 : dg c = true
    · rw [if_pos h2]
      have hn := takeWhile_len dg (c :: t)
      have hle : ((c :: t).takeWhile dg).length ≤ (c :: t).length := (List.takeWhile_sublist dg).length_le
      refine Ev.yes h2 (Ev.diag (L_digits (c :: t) hl _ 0 (by omega) rfl (by simp) _ ?_))
      have hq := fun (x3 : Int) (s4 : ByteArray) (x5 x6 x7 : Int) => Q_digits (x3 := x3) (s4 := s4) (x5 := x5) (x6 := x6) (x7 := x7) (c :: t) ((c :: t).takeWhile dg).length hle
      rw [List.drop_zero, Nat.zero_add]
      rw [hn] at hq ⊢
      exact hq _ _ _ _ _
    · rw [if_neg h2]
      refine Ev.no (by simpa using h2) ?_
      simp only [q59_8_eq]
      refine v_oS (C_sign (c :: t) (by simp)) ?_
      by_cases h3 : sgn (c :: t) = []
      · rw [if_pos h3, h3]
        refine Ev.no rfl ?_
        simp only [q59_9_eq]
        refine Ev.yes hp1 (Ev.of fun m k n => ?_)
        rw [ext_bx]
        rfl
      · rw [if_neg h3]
        refine Ev.yes ?_ (Ev.ret _)
        rw [bx_data, beqL_eq]
        simpa using h3
end
end Go.Proofs.YtbmcafehpgimfaaGreat.Ps
namespace Go.Proofs.YtbmcafehpgimfaaGreat.Ps
set_option linter.unusedVariables false
set_option linter.unusedSimpArgs false
open Go Go.RowKit Go.Proofs

def cellsIn (w : World) (b : Nat) : Nat := match w.heap[b]? with | some (.cells cs _ _) => cs.size | _ => 0
def g0 (w : World) : G := ⟨w, cellsIn w, fun _ => none, fun _ => none, fun _ => False⟩
theorem entry0 (w : World) : Entry (g0 w) [] where
  blk := fun i x h => by cases h
  out := fun i _ => rfl
  inj := fun i j B h => by cases h
  lt := fun i B h => by cases h
  fresh := fun b h => by
    show cellsIn w b = 0
    have h' : w.heap.size ≤ b := h
    unfold cellsIn
    rw [Array.getElem?_eq_none h']
  live := fun κ h => by cases h
  own := fun κ e s u h => by cases h
  dist := fun κ κ' e s u e' s' u' b h => by cases h
  used := fun κ e s u h => by cases h
  us := fun _ h => h.elim
theorem since0 (w : World) : Since w (g0 w) := ⟨Below.refl _ _, fun b h => by
  rcases h with ⟨i, h⟩ | ⟨κ, e, s, u, h, _⟩ <;> cases h⟩
abbrev sV (s : ByteArray) : V := V.one (X.d (D.str s))
theorem law_calls {w : World} (hs : Sane w) {f : FuncId} {args : List V} {vs : List Value} (hv : RepVs (g0 w) args vs) (h : Cal f args [] (RV (V.one (bX true)))) :
    Calls Tryz.prog f vs.toArray w fun e w' => e = .returned (.bool true) ∧ Below w.heap.size w w' := by
  obtain ⟨k, hk⟩ := h
  refine (((Ak_ok hs k) f args [] _ (hk k k k (Nat.le_refl _) (Nat.le_refl _) (Nat.le_refl _))) (g0 w) vs (since0 w) (entry0 w) hv).2.mono ?_
  rintro e w' ⟨g', rfl, ho⟩
  obtain ⟨v, rfl, hr⟩ := ho.ok rfl
  rw [hr.bool_eq]
  refine ⟨rfl, ho.step.os, ho.step.tape, ho.step.output, ho.step.size, fun b hb => (ho.step.keep b hb (fun hm => ?_)).1⟩
  rcases hm with ⟨i, h⟩ | ⟨κ, e, s, u, h, _⟩ <;> cases h
end Go.Proofs.YtbmcafehpgimfaaGreat.Ps
namespace Go.Proofs.YtbmcafehpgimfaaGreat.Ps
set_option linter.unusedVariables false
set_option linter.unusedSimpArgs false
open Go Go.RowKit Px
open Lx (Tok)

abbrev RD : List Lf := [Lf.lst 5, Lf.int IntKind.i64]
abbrev rd (l : List Tok) (i : Nat) : List X := [X.d (D.list 5 (toks l)), X.d (D.int IntKind.i64 (Int.ofNat i))]
abbrev rds (l : List Tok) (i : Nat) : List (List Lf × List X) := [(RD, rd l i)]
def flt (t : Tok) : D := D.iface 34 [D.int IntKind.i64 11, D.str (bx t.text), D.int IntKind.i64 t.line, D.int IntKind.i64 t.col]
def outOf {α : Type} (l : List Tok) (enc : α → V) : Rs α → Out
  | .ok a j => ⟨true, enc a, D.junk, [rd l j], 0⟩
  | .no j => ⟨false, V.junk, flt (tk l j), [rd l j], 0⟩
  | .out => ⟨true, V.junk, D.junk, [], 0⟩
def Sim {α : Type} (l : List Tok) (enc : α → V) (F : Nat → Nat → Nat → Option Out) (r : Rs α) : Prop := r ≠ .out → Ev F (outOf l enc r)
theorem Sim.ret {α : Type} {l : List Tok} {enc : α → V} {F : Nat → Nat → Nat → Option Out} {P : (q : NT) → Nat → Rs (Ret q)} {a : α} {i : Nat} (h : ∀ m k n, F m k n = some ⟨true, enc a, D.junk, [rd l i], 0⟩) : Sim l enc F (run P l (.ret a) i) := fun _ => Ev.of h
theorem Sim.eq {α : Type} {l : List Tok} {enc : α → V} {F G : Nat → Nat → Nat → Option Out} {r : Rs α} (h : Sim l enc G r) (e : ∀ m k n, F m k n = G m k n) : Sim l enc F r := fun hr => (h hr).eq e
theorem C_token {l : List Tok} {i : Nat} (hi : i < l.length) : Cal 35 [V.one (X.ptr 0 0)] (rds l i) ⟨true, kV (tk l i), D.junk, [rd l i], 0⟩ := by
  refine call35 _ _ (Ev.of fun m k n => ?_)
  rw [e35_eq, toks_len, in_range i _ hi, cond_true, tn, toks_at l i hi]
  rfl
theorem C_is {l : List Tok} {i : Nat} (hi : i < l.length) (s : List UInt8) : Cal 60 [V.one (X.ptr 0 0), V.one (X.d (D.str (bx s)))] (rds l i) ⟨true, V.one (X.d (D.bool (isT s (tk l i)))), D.junk, [rd l i], 0⟩ := by
  refine call60 _ _ _ ?_
  simp only [e60_eq]
  refine v_a5ISIII_L5I (C_token hi) ?_
  refine Ev.of fun m k n => ?_
  unfold isT
  rw [bx_data, bx_data, beqL_eq]
  cases h4 : (tk l i).kind == 4
  · cases h2 : (tk l i).kind == 2
    · rfl
    · rfl
  · rfl
theorem C_fail {l : List Tok} {i : Nat} (hi : i < l.length) : Cal 36 [V.one (X.ptr 0 0)] (rds l i) ⟨false, V.junk, flt (tk l i), [rd l i], 0⟩ := by
  refine call36 _ _ ?_
  simp only [e36_eq]
  exact v_a5ISIII_L5I (C_token hi) (Ev.of fun m k n => rfl)
theorem up {l : List Tok} (hl : l.length ≤ 1000000) {i : Nat} (hi : i < l.length) : IntKind.wrap .i64 (Int.ofNat i + 1) = Int.ofNat (i + 1) := wrap_up i (by omega)
theorem C_take {l : List Tok} (hl : l.length ≤ 1000000) {i : Nat} (hi : i < l.length) (s : List UInt8) : Cal 37 [V.one (X.ptr 0 0), V.one (X.d (D.str (bx s)))] (rds l i)
    ⟨true, V.one (X.d (D.bool (isT s (tk l i)))), D.junk, [rd l (bif isT s (tk l i) then i + 1 else i)], 0⟩ := by
  refine call37 _ _ _ ?_
  simp only [e37_eq]
  refine v_oB_L5I (C_is hi s) ?_
  refine Ev.of fun m k n => ?_
  cases h : isT s (tk l i)
  · rw [cond_false, q37_0_eq]; rfl
  · rw [cond_true, up hl hi]; rfl
theorem C_want_yes {l : List Tok} (hl : l.length ≤ 1000000) {i : Nat} (hi : i < l.length) {s : List UInt8} (h : isT s (tk l i) = true) : Cal 39 [V.one (X.ptr 0 0), V.one (X.d (D.str (bx s)))] (rds l i)
    ⟨true, V.tup [], D.junk, [rd l (i + 1)], 0⟩ := by
  refine call39 _ _ _ ?_
  simp only [e39_eq]
  have := C_take hl hi s
  rw [h, cond_true] at this
  exact v_oB_L5I this (Ev.of fun m k n => rfl)
theorem C_want_no {l : List Tok} (hl : l.length ≤ 1000000) {i : Nat} (hi : i < l.length) {s : List UInt8} (h : isT s (tk l i) = false) : Cal 39 [V.one (X.ptr 0 0), V.one (X.d (D.str (bx s)))] (rds l i)
    ⟨false, V.junk, flt (tk l i), [rd l i], 0⟩ := by
  refine call39 _ _ _ ?_
  simp only [e39_eq]
  have := C_take hl hi s
  rw [h, cond_false] at this
  refine v_oB_L5I this (Ev.yes rfl ?_)
  exact u_n_L5I (C_fail hi) (Ev.of fun m k n => rfl)
theorem C_kind_yes {l : List Tok} (hl : l.length ≤ 1000000) {i : Nat} (hi : i < l.length) {κ : Int} (h : ((tk l i).kind == κ) = true) : Cal 54 [V.one (X.ptr 0 0), V.one (X.d (D.int IntKind.i64 κ))] (rds l i)
    ⟨true, kV (tk l i), D.junk, [rd l (i + 1)], 0⟩ := by
  refine call54 _ _ _ ?_
  simp only [e54_eq]
  refine v_a5ISIII_L5I (C_token hi) (Ev.of fun m k n => ?_)
  rw [show ((tk l i).kind != κ) = false by rw [bne, h]; rfl, cond_false, q54_0_eq, up hl hi]
  rfl
theorem C_kind_no {l : List Tok} {i : Nat} (hi : i < l.length) {κ : Int} (h : ((tk l i).kind == κ) = false) : Cal 54 [V.one (X.ptr 0 0), V.one (X.d (D.int IntKind.i64 κ))] (rds l i)
    ⟨false, V.junk, flt (tk l i), [rd l i], 0⟩ := by
  refine call54 _ _ _ ?_
  simp only [e54_eq]
  refine v_a5ISIII_L5I (C_token hi) ?_
  simp only [show ((tk l i).kind != κ) = true by rw [bne, h]; rfl, cond_true]
  exact u_n_L5I (C_fail hi) (Ev.of fun m k n => rfl)

section
variable {α : Type} {l : List Tok} {enc : α → V} {P : (q : NT) → Nat → Rs (Ret q)}
abbrev PanOn (Q : Nat → Nat → Nat → D → List (List D) → Int → Option Out) : Prop := ∀ m k n d w i, Q m k n d w i = some ⟨false, V.junk, d, [[X.d (D.list 5 w), X.d (D.int IntKind.i64 i)]], 0⟩
theorem S_token {i : Nat} (hi : i < l.length) {K : Nat → Nat → Nat → Int → ByteArray → Int → Int → Int → List (List D) → Int → Option Out} {Q : Nat → Nat → Nat → D → List (List D) → Int → Option Out} {f : Tok → Pm α}
    (h : Sim l enc (fun m k n => K m k n (tk l i).kind (bx (tk l i).text) (tk l i).n (tk l i).line (tk l i).col (toks l) (Int.ofNat i)) (run P l (f (tk l i)) i)) :
    Sim l enc (fun m k n => r_a5ISIII_L5I (Ak k false 35 [V.one (X.ptr 0 0)] (rds l i)) (K m k n) (Q m k n)) (run P l (.look f) i) := fun hr => v_a5ISIII_L5I (C_token hi) (h hr)
theorem S_take (hl : l.length ≤ 1000000) {i : Nat} (hi : i < l.length) (s : List UInt8) {K : Nat → Nat → Nat → Bool → List (List D) → Int → Option Out} {Q : Nat → Nat → Nat → D → List (List D) → Int → Option Out} {y n : Pm α}
    (hy : isT s (tk l i) = true → Sim l enc (fun m k n => K m k n true (toks l) (Int.ofNat (i + 1))) (run P l y (i + 1)))
    (hn : isT s (tk l i) = false → Sim l enc (fun m k n => K m k n false (toks l) (Int.ofNat i)) (run P l n i)) :
    Sim l enc (fun m k n => r_oB_L5I (Ak k false 37 [V.one (X.ptr 0 0), V.one (X.d (D.str (bx s)))] (rds l i)) (K m k n) (Q m k n)) (run P l (Pm.take s y n) i) := by
  have hc := C_take hl hi s
  unfold run
  cases h : isT s (tk l i) with
  | true => rw [h] at hc; exact fun hr => v_oB_L5I hc (hy h hr)
  | false => rw [h] at hc; exact fun hr => v_oB_L5I hc (hn h hr)
theorem S_want (hl : l.length ≤ 1000000) {i : Nat} (hi : i < l.length) (s : List UInt8) {K : Nat → Nat → Nat → List (List D) → Int → Option Out} {Q : Nat → Nat → Nat → D → List (List D) → Int → Option Out} {y : Pm α} (hp : PanOn Q)
    (hy : isT s (tk l i) = true → Sim l enc (fun m k n => K m k n (toks l) (Int.ofNat (i + 1))) (run P l y (i + 1))) :
    Sim l enc (fun m k n => r_n_L5I (Ak k false 39 [V.one (X.ptr 0 0), V.one (X.d (D.str (bx s)))] (rds l i)) (K m k n) (Q m k n)) (run P l (Pm.want s y) i) := by
  unfold run
  cases h : isT s (tk l i) with
  | true => exact fun hr => v_n_L5I (C_want_yes hl hi h) (hy h hr)
  | false => exact fun hr => u_n_L5I (C_want_no hl hi h) (Ev.of fun m k n => hp m k n _ _ _)
theorem S_kind (hl : l.length ≤ 1000000) {i : Nat} (hi : i < l.length) (κ : Int) {K : Nat → Nat → Nat → Int → ByteArray → Int → Int → Int → List (List D) → Int → Option Out} {Q : Nat → Nat → Nat → D → List (List D) → Int → Option Out} {f : Tok → Pm α} (hp : PanOn Q)
    (hy : (tk l i).kind = κ → Sim l enc (fun m k n => K m k n (tk l i).kind (bx (tk l i).text) (tk l i).n (tk l i).line (tk l i).col (toks l) (Int.ofNat (i + 1))) (run P l (f (tk l i)) (i + 1))) :
    Sim l enc (fun m k n => r_a5ISIII_L5I (Ak k false 54 [V.one (X.ptr 0 0), V.one (X.d (D.int IntKind.i64 κ))] (rds l i)) (K m k n) (Q m k n)) (run P l (Pm.kind κ f) i) := by
  unfold run
  cases h : (tk l i).kind == κ with
  | true => exact fun hr => v_a5ISIII_L5I (C_kind_yes hl hi h) (hy (by simpa using h) hr)
  | false => exact fun hr => u_a5ISIII_L5I (C_kind_no hi h) (Ev.of fun m k n => hp m k n _ _ _)
end

theorem Sim.step {α : Type} {l : List Tok} {enc : α → V} {F : Nat → Nat → Nat → Option Out} {r : Rs α} (h : Sim l enc (fun m k n => F (m + 1) k n) r) : Sim l enc F r := fun hr => (h hr).step
theorem Sim.diag {α : Type} {l : List Tok} {enc : α → V} {F : Nat → Nat → Nat → Option Out} {r : Rs α} (h : Sim l enc F r) : Sim l enc (fun m k n => F n k n) r := fun hr => (h hr).diag
theorem Sim.yes {α : Type} {l : List Tok} {enc : α → V} {F G : Nat → Nat → Nat → Option Out} {r : Rs α} {c : Bool} (hc : c = true) (h : Sim l enc F r) : Sim l enc (fun m k n => bif c then F m k n else G m k n) r := fun hr => (h hr).yes hc
theorem Sim.no {α : Type} {l : List Tok} {enc : α → V} {F G : Nat → Nat → Nat → Option Out} {r : Rs α} {c : Bool} (hc : c = false) (h : Sim l enc G r) : Sim l enc (fun m k n => bif c then F m k n else G m k n) r := fun hr => (h hr).no hc
theorem Sim.enc {α β : Type} {l : List Tok} {e : α → V} {e' : β → V} {F : Nat → Nat → Nat → Option Out} {r : Rs α} {g : α → β} (he : ∀ a, e' (g a) = e a) (h : Sim l e F r) : Sim l e' F (thenR r fun a j => .ok (g a) j) := by
  intro hr
  cases r with
  | ok a j =>
    have := h (fun q => by cases q)
    show Ev F ⟨true, e' (g a), D.junk, [rd l j], 0⟩
    rw [he]
    exact this
  | no j => exact h (fun q => by cases q)
  | out => exact absurd rfl hr
def Reads {α : Type} (l : List Tok) (f : FuncId) (enc : α → V) (R : Nat → Rs α) : Prop := ∀ i, i < l.length → Sim l enc (fun _ k _ => Ak k false f [V.one (X.ptr 0 0)] (rds l i)) (R i)
structure Few (l : List Tok) : Prop where
  good : GoodL l
  len : l.length ≤ 1000000
theorem T.rows_app (a : List T) (b : T) : T.rows (a ++ [b]) = T.rows a ++ [[D.int IntKind.i64 b.k, D.list 2 (T.rows b.l)]] := by
  rw [T.rows_map, T.rows_map, List.map_append, List.map_singleton, T.row_eq, T.rows_map]
theorem T.rows_len (a : List T) : (T.rows a).length = a.length := by rw [T.rows_map, List.length_map]
theorem T.rows_one (a : T) : T.rows [a] = [[D.int IntKind.i64 a.k, D.list 2 (T.rows a.l)]] := T.rows_app [] a
theorem T.rows_two (a b : T) : T.rows [a, b] = [[D.int IntKind.i64 a.k, D.list 2 (T.rows a.l)], [D.int IntKind.i64 b.k, D.list 2 (T.rows b.l)]] := by
  have := T.rows_app [a] b
  rw [T.rows_one] at this
  exact this
theorem roomy (n c : Nat) (hn : n ≤ 1000000) (hc : c ≤ 1000) : Nat.ble ((n + 1) * c) 140737488355328 = true := by
  have h1 : (n + 1) * c ≤ 1000001 * 1000 := Nat.mul_le_mul (by omega) hc
  exact Nat.ble_eq_true_of_le (by omega)
section
variable {α : Type} {l : List Tok} {enc : α → V}
theorem S_T {f : FuncId} {args : List V} {rows : List (List Lf × List X)} {r : Rs T} {g : T → Nat → Rs α} {K : Nat → Nat → Nat → Int → List (List D) → List (List D) → Int → Option Out} {Q : Nat → Nat → Nat → D → List (List D) → Int → Option Out}
    (h : Sim l tV (fun _ k _ => Ak k false f args rows) r) (hp : PanOn Q)
    (hy : ∀ a j, r = .ok a j → Sim l enc (fun m k n => K m k n a.k (T.rows a.l) (toks l) (Int.ofNat j)) (g a j)) :
    Sim l enc (fun m k n => r_a2IL2_L5I (Ak k false f args rows) (K m k n) (Q m k n)) (thenR r g) := by
  cases r with
  | ok a j => exact fun hr => v_a2IL2_L5I (h (fun q => by cases q)) (hy a j rfl hr)
  | no j => exact fun hr => u_a2IL2_L5I (h (fun q => by cases q)) (Ev.of fun m k n => hp m k n _ _ _)
  | out => exact fun hr => absurd rfl hr
end
theorem typ_ok {l : List Tok} (hl : Few l) : ∀ μ i, i < l.length → l.length - i < μ → Sim l tV (fun _ k _ => Ak k false 61 [V.one (X.ptr 0 0)] (rds l i)) (pw l .typ i) ∧
    ∀ (acc : List T) z z' x2, acc.length ≤ i → Sim l tV (fun m k n => l61_0 m (Ak k) n z z' (toks l) (Int.ofNat i) x2 3 (T.rows acc)) (run (pw l) l (.call .typs fun r => .ret (T.mk 3 (acc ++ r))) i)
  | 0, i, hi, h => by omega
  | μ + 1, i, hi, h => by
    have ih := typ_ok hl μ
    have g := hl.good
    refine ⟨?_, fun acc z z' x2 ha => ?_⟩
    · rw [pw_eq g _ i hi]
      refine fun hr => call61 _ _ ((?_ : Sim l tV (fun _ k n => e61 (Ak k) n (toks l) (Int.ofNat i)) (run (pw l) l (body .typ) i)) hr)
      clear hr
      simp only [e61_eq]
      refine S_take hl.len hi wBool (fun h => Sim.yes rfl (Sim.ret fun _ _ _ => rfl)) (fun h => Sim.no rfl ?_)
      refine S_take hl.len hi wInt (fun h => Sim.yes rfl (Sim.ret fun _ _ _ => rfl)) (fun h => Sim.no rfl ?_)
      refine S_take hl.len hi wLb (fun h => Sim.yes rfl ?_) (fun h => Sim.no rfl ?_)
      · have h1 := nx g hi h
        rw [run_call]
        refine S_T (ih _ h1 (by omega)).1 (fun _ _ _ _ _ _ => rfl) fun a j hj => ?_
        have hf := pw_ok g h1 hj
        refine S_want hl.len hf.2 wRb (fun _ _ _ _ _ _ => rfl) fun h2 => Sim.ret fun _ _ _ => ?_
        unfold tV
        rw [T.k, T.l, T.rows_one]
      · simp only [q61_0_eq]
        refine S_want hl.len hi wLp (fun _ _ _ _ _ _ => rfl) fun h2 => ?_
        have h1 := nx g hi h2
        rw [run_call]
        refine S_T (ih _ h1 (by omega)).1 (fun _ _ _ _ _ _ => rfl) fun a j hj => ?_
        have hf := pw_ok g h1 hj
        refine S_want hl.len hf.2 wCm (fun _ _ _ _ _ _ => rfl) fun h3 => ?_
        have h4 := nx g hf.2 h3
        rw [run_call]
        refine S_T (ih _ h4 (by omega)).1 (fun _ _ _ _ _ _ => rfl) fun b j2 hj2 => ?_
        have hf2 := pw_ok g h4 hj2
        rw [← T.rows_two]
        exact Sim.diag ((ih j2 hf2.2 (by omega)).2 [a, b] _ _ _ (by simp only [List.length_cons, List.length_nil]; omega))
    · rw [run_open g _ _ i hi]
      refine Sim.step ?_
      simp only [l61_0_eq]
      refine S_take hl.len hi wCm (fun h => Sim.yes rfl ?_) (fun h => Sim.no rfl ?_)
      · have h1 := nx g hi h
        simp only [q61_1_eq]
        refine Eq.subst (motive := fun r => Sim l tV _ r) (run_call _ _ _).symm ?_
        refine S_T (ih _ h1 (by omega)).1 (fun _ _ _ _ _ _ => rfl) fun a j hj => ?_
        have hf := pw_ok g h1 hj
        refine Sim.yes (by rw [T.rows_len]; exact roomy _ _ (by have := hl.len; omega) (by omega)) ?_
        rw [← T.rows_app]
        have := (ih j hf.2 (by omega)).2 (acc ++ [a]) z z' x2 (by rw [List.length_append, List.length_singleton]; omega)
        simp only [List.append_assoc, List.singleton_append] at this
        exact this
      · simp only [q61_2_eq]
        refine S_want hl.len hi wRp (fun _ _ _ _ _ _ => rfl) fun h2 => Sim.ret fun _ _ _ => ?_
        rw [List.append_nil]
        rfl

def esV (l : List E) : V := V.one (X.d (D.list 8 (E.rows l)))
def osV (l : List Int) : V := V.one (X.d (D.list 1 (ints l)))
def nV (n : Int) : V := V.one (X.d (D.int IntKind.i64 n))
theorem E.rows_app (a : List E) (b : E) : E.rows (a ++ [b]) = E.rows a ++ [[D.int IntKind.i64 b.k, D.int IntKind.i64 b.n, D.str (bx b.name), D.list 1 (strs b.names), D.list 1 (ints b.odds), D.list 8 (E.rows b.kids), D.int IntKind.i64 b.line, D.int IntKind.i64 b.col]] := by
  rw [E.rows_map, E.rows_map, List.map_append, List.map_singleton, E.row_eq, E.rows_map]
theorem E.rows_len (a : List E) : (E.rows a).length = a.length := by rw [E.rows_map, List.length_map]
theorem E.rows_one (b : E) : E.rows [b] = [[D.int IntKind.i64 b.k, D.int IntKind.i64 b.n, D.str (bx b.name), D.list 1 (strs b.names), D.list 1 (ints b.odds), D.list 8 (E.rows b.kids), D.int IntKind.i64 b.line, D.int IntKind.i64 b.col]] := E.rows_app [] b
theorem E.rows_cons (b : E) (r : List E) : E.rows (b :: r) = [D.int IntKind.i64 b.k, D.int IntKind.i64 b.n, D.str (bx b.name), D.list 1 (strs b.names), D.list 1 (ints b.odds), D.list 8 (E.rows b.kids), D.int IntKind.i64 b.line, D.int IntKind.i64 b.col] :: E.rows r := by
  rw [E.rows_map, List.map_cons, E.row_eq, E.rows_map r]
theorem E.rows_nil : E.rows [] = [] := by rw [E.rows]
theorem strs_app (a : List (List UInt8)) (b : List UInt8) : strs (a ++ [b]) = strs a ++ [[D.str (bx b)]] := by unfold strs; rw [List.map_append]; rfl
theorem strs_len (a : List (List UInt8)) : (strs a).length = a.length := List.length_map ..
section
variable {α : Type} {l : List Tok} {enc : α → V}
theorem S_E {f : FuncId} {args : List V} {rows : List (List Lf × List X)} {r : Rs E} {g : E → Nat → Rs α} {K : Nat → Nat → Nat → Int → Int → ByteArray → List (List D) → List (List D) → List (List D) → Int → Int → List (List D) → Int → Option Out} {Q : Nat → Nat → Nat → D → List (List D) → Int → Option Out}
    (h : Sim l eV (fun _ k _ => Ak k false f args rows) r) (hp : PanOn Q)
    (hy : ∀ a j, r = .ok a j → Sim l enc (fun m k n => K m k n a.k a.n (bx a.name) (strs a.names) (ints a.odds) (E.rows a.kids) a.line a.col (toks l) (Int.ofNat j)) (g a j)) :
    Sim l enc (fun m k n => r_a8IISL1L1L8II_L5I (Ak k false f args rows) (K m k n) (Q m k n)) (thenR r g) := by
  cases r with
  | ok a j => exact fun hr => v_a8IISL1L1L8II_L5I (h (fun q => by cases q)) (hy a j rfl hr)
  | no j => exact fun hr => u_a8IISL1L1L8II_L5I (h (fun q => by cases q)) (Ev.of fun m k n => hp m k n _ _ _)
  | out => exact fun hr => absurd rfl hr
theorem S_F {f : FuncId} {args : List V} {rows : List (List Lf × List X)} {r : Rs Fld} {g : Fld → Nat → Rs α} {K : Nat → Nat → Nat → ByteArray → Int → List (List D) → Int → Int → List (List D) → Int → Option Out} {Q : Nat → Nat → Nat → D → List (List D) → Int → Option Out}
    (h : Sim l fV (fun _ k _ => Ak k false f args rows) r) (hp : PanOn Q)
    (hy : ∀ a j, r = .ok a j → Sim l enc (fun m k n => K m k n (bx a.name) a.typ.k (T.rows a.typ.l) a.line a.col (toks l) (Int.ofNat j)) (g a j)) :
    Sim l enc (fun m k n => r_a5SIL2II_L5I (Ak k false f args rows) (K m k n) (Q m k n)) (thenR r g) := by
  cases r with
  | ok a j => exact fun hr => v_a5SIL2II_L5I (h (fun q => by cases q)) (hy a j rfl hr)
  | no j => exact fun hr => u_a5SIL2II_L5I (h (fun q => by cases q)) (Ev.of fun m k n => hp m k n _ _ _)
  | out => exact fun hr => absurd rfl hr
theorem S_L {f : FuncId} {args : List V} {rows : List (List Lf × List X)} {r : Rs (List E)} {g : List E → Nat → Rs α} {K : Nat → Nat → Nat → List (List D) → List (List D) → Int → Option Out} {Q : Nat → Nat → Nat → D → List (List D) → Int → Option Out}
    (h : Sim l esV (fun _ k _ => Ak k false f args rows) r) (hp : PanOn Q)
    (hy : ∀ a j, r = .ok a j → Sim l enc (fun m k n => K m k n (E.rows a) (toks l) (Int.ofNat j)) (g a j)) :
    Sim l enc (fun m k n => r_oL8_L5I (Ak k false f args rows) (K m k n) (Q m k n)) (thenR r g) := by
  cases r with
  | ok a j => exact fun hr => v_oL8_L5I (h (fun q => by cases q)) (hy a j rfl hr)
  | no j => exact fun hr => u_oL8_L5I (h (fun q => by cases q)) (Ev.of fun m k n => hp m k n _ _ _)
  | out => exact fun hr => absurd rfl hr
theorem S_O {f : FuncId} {args : List V} {rows : List (List Lf × List X)} {r : Rs (List Int)} {g : List Int → Nat → Rs α} {K : Nat → Nat → Nat → List (List D) → List (List D) → Int → Option Out} {Q : Nat → Nat → Nat → D → List (List D) → Int → Option Out}
    (h : Sim l osV (fun _ k _ => Ak k false f args rows) r) (hp : PanOn Q)
    (hy : ∀ a j, r = .ok a j → Sim l enc (fun m k n => K m k n (ints a) (toks l) (Int.ofNat j)) (g a j)) :
    Sim l enc (fun m k n => r_oL1_L5I (Ak k false f args rows) (K m k n) (Q m k n)) (thenR r g) := by
  cases r with
  | ok a j => exact fun hr => v_oL1_L5I (h (fun q => by cases q)) (hy a j rfl hr)
  | no j => exact fun hr => u_oL1_L5I (h (fun q => by cases q)) (Ev.of fun m k n => hp m k n _ _ _)
  | out => exact fun hr => absurd rfl hr
theorem S_I {f : FuncId} {args : List V} {rows : List (List Lf × List X)} {r : Rs Int} {g : Int → Nat → Rs α} {K : Nat → Nat → Nat → Int → List (List D) → Int → Option Out} {Q : Nat → Nat → Nat → D → List (List D) → Int → Option Out}
    (h : Sim l nV (fun _ k _ => Ak k false f args rows) r) (hp : PanOn Q)
    (hy : ∀ a j, r = .ok a j → Sim l enc (fun m k n => K m k n a (toks l) (Int.ofNat j)) (g a j)) :
    Sim l enc (fun m k n => r_oI_L5I (Ak k false f args rows) (K m k n) (Q m k n)) (thenR r g) := by
  cases r with
  | ok a j => exact fun hr => v_oI_L5I (h (fun q => by cases q)) (hy a j rfl hr)
  | no j => exact fun hr => u_oI_L5I (h (fun q => by cases q)) (Ev.of fun m k n => hp m k n _ _ _)
  | out => exact fun hr => absurd rfl hr
theorem S_begin (κ : Int) (t : Tok) {r : Rs α} {K : Nat → Nat → Nat → Int → Int → ByteArray → Int → Int → Option Out} {Q : Nat → Nat → Nat → D → Option Out}
    (h : Sim l enc (fun m k n => K m k n κ 0 (bx []) t.line t.col) r) :
    Sim l enc (fun m k n => r_a8IISN1N1N8II (Ak k false 53 [V.one (X.d (D.int IntKind.i64 κ)), V.agg [X.d (D.int IntKind.i64 t.kind), X.d (D.str (bx t.text)), X.d (D.int IntKind.i64 t.n), X.d (D.int IntKind.i64 t.line), X.d (D.int IntKind.i64 t.col)]] []) (K m k n) (Q m k n)) r :=
  fun hr => v_a8IISN1N1N8II (call53 _ _ _ _ _ _ (Ev.of fun m k n => by rw [e53_eq]; rfl)) (h hr)
end
theorem L_index (ls : List (List UInt8)) (hls : ls.length ≤ 1000000) (s : List UInt8) : ∀ (d i : Nat), ls.length - i ≤ d → i ≤ ls.length → ∃ v : Int, (decide (v ≥ 0) = (ls.drop i).contains s) ∧
    Ev (fun m k n => l92_0 m (Ak k) n (strs ls) (bx s) (Int.ofNat ls.length) (Int.ofNat i)) ⟨true, V.one (X.d (D.int IntKind.i64 v)), D.junk, [], 0⟩ := by
  intro d
  induction d with
  | zero =>
    intro i h hi
    refine ⟨-1, ?_, ?_⟩
    · rw [List.drop_eq_nil_of_le (by omega)]; rfl
    · refine Ev.step ?_
      simp only [l92_0_eq, lt_no i _ (show ls.length ≤ i by omega), cond_false]
      exact Ev.of fun m k n => by rw [q92_2_eq]
  | succ d ih =>
    intro i h hi
    by_cases hlt : i < ls.length
    · have hat : (strs ls).getD i [] = [D.str (bx (ls.getD i []))] := by
        unfold strs
        rw [rows_getD _ _ _ hlt]
        rfl
      have hdrop : ls.drop i = ls.getD i [] :: ls.drop (i + 1) := by
        rw [List.drop_eq_getElem_cons hlt, List.getD_eq_getElem?_getD, List.getElem?_eq_getElem hlt]
        rfl
      by_cases he : ls.getD i [] = s
      · refine ⟨Int.ofNat i, ?_, ?_⟩
        · rw [hdrop, he]
          simp
        · refine Ev.step ?_
          simp only [l92_0_eq, lt_yes i _ hlt, cond_true]
          refine Ev.of fun m k n => ?_
          rw [q92_0_eq, strs_len, in_range i _ hlt, cond_true, tn, hat, he]
          show (bif beqL (bx s).data.toList (bx s).data.toList then _ else _) = _
          rw [beqL_eq, beq_self_eq_true]
          rfl
      · obtain ⟨v, hv, hev⟩ := ih (i + 1) (by omega) (by omega)
        refine ⟨v, ?_, ?_⟩
        · rw [hv, hdrop, List.contains_cons]
          have : (s == ls.getD i []) = false := by simpa using fun e => he e.symm
          rw [this, Bool.false_or]
        · refine Ev.step (Ev.eq hev fun m k n => ?_)
          rw [l92_0_eq, lt_yes i _ hlt, cond_true, q92_0_eq, strs_len, in_range i _ hlt, cond_true, tn, hat]
          show (bif beqL (bx s).data.toList (bx (ls.getD i [])).data.toList then _ else _) = _
          rw [beqL_eq, bx_data, bx_data, show (s == ls.getD i []) = false by simpa using fun e => he e.symm, cond_false, q92_1_eq, wrap_up i (by omega)]
    · refine ⟨-1, ?_, ?_⟩
      · rw [List.drop_eq_nil_of_le (by omega)]; rfl
      · refine Ev.step ?_
        simp only [l92_0_eq, lt_no i _ (show ls.length ≤ i by omega), cond_false]
        exact Ev.of fun m k n => by rw [q92_2_eq]
theorem C_contains (ls : List (List UInt8)) (hls : ls.length ≤ 1000000) (s : List UInt8) : Cal 85 [V.one (X.d (D.list 1 (strs ls))), V.one (X.d (D.str (bx s)))] [] ⟨true, V.one (X.d (D.bool (ls.contains s))), D.junk, [], 0⟩ := by
  obtain ⟨v, hv, hev⟩ := L_index ls hls s ls.length 0 (by omega) (by omega)
  refine call85 _ _ ?_
  simp only [e85_eq]
  refine v_oI (y0 := v) (call92 _ _ ?_) (Ev.of fun m k n => by rw [hv]; rfl)
  simp only [e92_eq, strs_len]
  exact Ev.diag hev
def opAt (n : Nat) (t : Tok) : List UInt8 := if (opsOf n).any (fun s => isT s t) then t.text else []
theorem run_any {α : Type} {P : (q : NT) → Nat → Rs (Ret q)} {l : List Tok} (y n : Pm α) (i : Nat) : ∀ ss : List (List UInt8), run P l (Pm.any ss y n) i = if ss.any (fun s => isT s (tk l i)) then run P l y i else run P l n i
  | [] => rfl
  | s :: ss => by
    show run P l (.tst s y (Pm.any ss y n)) i = _
    rw [run, List.any_cons]
    cases isT s (tk l i)
    · rw [cond_false, Bool.false_or]; exact run_any y n i ss
    · rfl
theorem isT_sign {s : List UInt8} {t : Tok} (h : (t.kind == 4 || t.kind == 2) = true) : isT s t = (t.text == s) := by unfold isT; rw [h, Bool.true_and]
theorem isT_none {s : List UInt8} {t : Tok} (h : (t.kind == 4 || t.kind == 2) = false) : isT s t = false := by unfold isT; rw [h, Bool.false_and]
theorem C_oper {l : List Tok} {i : Nat} (hi : i < l.length) (n : Nat) (hn : n ≤ 5) : Cal 76 [V.one (X.ptr 0 0), V.one (X.d (D.int IntKind.i64 (Int.ofNat n)))] (rds l i) ⟨true, V.one (X.d (D.str (bx (opAt n (tk l i))))), D.junk, [rd l i], 0⟩ := by
  refine call76 _ _ _ ?_
  simp only [e76_eq]
  refine v_a5ISIII_L5I (C_token hi) ?_
  generalize tk l i = t
  cases hk : (t.kind == 4 || t.kind == 2) with
  | false =>
    rw [Bool.or_eq_false_iff] at hk
    have h0 : opAt n t = [] := by
      unfold opAt
      rw [if_neg]
      rw [Bool.not_eq_true, List.any_eq_false]
      exact fun s _ => by rw [isT_none (by rw [hk.1, hk.2]; rfl)]; simp
    refine Ev.of fun m k n' => ?_
    rw [h0, show (t.kind != 4) = true by rw [bne, hk.1]; rfl, show (t.kind != 2) = true by rw [bne, hk.2]; rfl]
    rfl
  | true =>
    have hq : Ev (fun m k n' => q76_0 (Ak k) n' (toks l) (Int.ofNat i) (Int.ofNat n) (toks l) (Int.ofNat i) t.kind (bx t.text) t.n t.line t.col) ⟨true, V.one (X.d (D.str (bx (opAt n t)))), D.junk, [rd l i], 0⟩ := by
      have e1 : ∀ s, isT s t = (t.text == s) := fun s => isT_sign hk
      simp only [q76_0_eq, beqL_eq, bx_data, q76_1_eq]
      unfold opAt
      simp only [e1]
      have fin : ∀ {c : Bool} {z : List UInt8}, c = true → Ev (fun _ _ _ => some (Out.mk true (V.one (X.d (D.str (bx t.text)))) D.junk [rd l i] 0)) ⟨true, V.one (X.d (D.str (bx (if c = true then t.text else z)))), D.junk, [rd l i], 0⟩ := fun {c z} h => by rw [if_pos h]; exact Ev.ret _
      have non : ∀ {c : Bool} {z : List UInt8}, c = false → Ev (fun _ _ _ => some (Out.mk true (V.one (X.d (D.str ⟨#[]⟩))) D.junk [rd l i] 0)) ⟨true, V.one (X.d (D.str (bx (if c = true then z else [])))), D.junk, [rd l i], 0⟩ := fun {c z} h => by rw [h]; exact Ev.ret _
      match n, hn with
      | 0, _ =>
        cases h : t.text == wOr
        · exact non (by simp [opsOf, h])
        · exact fin (by simp [opsOf, h])
      | 1, _ =>
        cases h : t.text == wAnd
        · exact non (by simp [opsOf, h])
        · exact fin (by simp [opsOf, h])
      | 2, _ =>
        refine Ev.no rfl (Ev.no rfl (Ev.yes rfl ?_))
        refine v_oB (C_contains [wEqEq, wLt, wLe] (by simp) t.text) ?_
        have e2 : [wEqEq, wLt, wLe].contains t.text = (opsOf 2).any fun s => t.text == s := by
          rw [List.contains_cons, List.contains_cons, List.contains_cons, List.contains_nil]
          rfl
        rw [← e2]
        cases h : [wEqEq, wLt, wLe].contains t.text
        · exact non rfl
        · exact fin rfl
      | 3, _ =>
        cases h : t.text == wCc
        · exact non (by simp [opsOf, h])
        · exact fin (by simp [opsOf, h])
      | 4, _ =>
        cases h : t.text == wPl
        · cases h2 : t.text == wMi
          · exact non (by simp [opsOf, h, h2])
          · exact fin (by simp [opsOf, h, h2])
        · exact fin (by simp [opsOf, h])
      | 5, _ =>
        cases h : t.text == wTi
        · cases h2 : t.text == wSl
          · cases h3 : t.text == wPc
            · exact non (by simp [opsOf, h, h2, h3])
            · exact fin (by simp [opsOf, h, h2, h3])
          · exact fin (by simp [opsOf, h, h2])
        · exact fin (by simp [opsOf, h])
    cases h4 : t.kind == 4
    · rw [h4, Bool.false_or] at hk
      refine Ev.eq hq fun m k n' => ?_
      rw [show (t.kind != 4) = true by rw [bne, h4]; rfl, show (t.kind != 2) = false by rw [bne, hk]; rfl]
      rfl
    · refine Ev.eq hq fun m k n' => ?_
      rw [show (t.kind != 4) = false by rw [bne, h4]; rfl]
      rfl

def Nums (l : List Tok) : Prop := ∀ i, 0 ≤ (tk l i).n ∧ (tk l i).n ≤ 2147483647
structure AllAt (l : List Tok) (i : Nat) : Prop where
  expr : Sim l eV (fun _ k _ => Ak k false 23 [V.one (X.ptr 0 0)] (rds l i)) (pw l .expr i)
  level : ∀ n, n ≤ 6 → Sim l eV (fun _ k _ => Ak k false 56 [V.one (X.ptr 0 0), V.one (X.d (D.int IntKind.i64 (Int.ofNat n)))] (rds l i)) (pw l (.level n) i)
  unary : Sim l eV (fun _ k _ => Ak k false 75 [V.one (X.ptr 0 0)] (rds l i)) (pw l .unary i)
  atom : Sim l eV (fun _ k _ => Ak k false 84 [V.one (X.ptr 0 0)] (rds l i)) (pw l .atom i)
  list : ∀ e, Sim l esV (fun _ k _ => Ak k false 90 [V.one (X.ptr 0 0), V.one (X.d (D.str (bx e)))] (rds l i)) (pw l (.list e) i)
abbrev After (l : List Tok) (i : Nat) : Prop := ∀ j, i < j → j < l.length → AllAt l j
section
variable {l : List Tok}
theorem share_ok (hl : Few l) (i : Nat) (hi : i < l.length) : Sim l osV (fun _ k _ => Ak k false 55 [V.one (X.ptr 0 0)] (rds l i)) (pw l .share i) := by
  have g := hl.good
  rw [pw_eq g _ i hi]
  refine fun hr => call55 _ _ ((?_ : Sim l osV (fun _ k n => e55 (Ak k) n (toks l) (Int.ofNat i)) (run (pw l) l (body .share) i)) hr)
  clear hr
  simp only [e55_eq]
  refine S_kind hl.len hi 3 (fun _ _ _ _ _ _ => rfl) fun h => ?_
  have h1 := nxk g hi h (by decide)
  refine S_want hl.len h1 wSl (fun _ _ _ _ _ _ => rfl) fun h2 => ?_
  have h3 := nx g h1 h2
  refine S_kind hl.len h3 3 (fun _ _ _ _ _ _ => rfl) fun h4 => ?_
  exact Sim.ret fun _ _ _ => rfl
theorem bound_ok (hl : Few l) (hn : Nums l) (i : Nat) (hi : i < l.length) : Sim l nV (fun _ k _ => Ak k false 91 [V.one (X.ptr 0 0)] (rds l i)) (pw l .bound i) := by
  have g := hl.good
  rw [pw_eq g _ i hi]
  refine fun hr => call91 _ _ ((?_ : Sim l nV (fun _ k n => e91 (Ak k) n (toks l) (Int.ofNat i)) (run (pw l) l (body .bound) i)) hr)
  clear hr
  simp only [e91_eq]
  refine S_take hl.len hi wMi (fun h => Sim.yes rfl ?_) (fun h => Sim.no rfl ?_)
  · have h1 := nx g hi h
    refine S_kind hl.len h1 3 (fun _ _ _ _ _ _ => rfl) fun h2 => Sim.ret fun _ _ _ => ?_
    have := hn (i + 1)
    rw [wrap_in _ (by omega) (by omega)]
    show some (Out.mk true (V.one (X.d (D.int IntKind.i64 (0 - (tk l (i + 1)).n)))) D.junk _ 0) = some (Out.mk true (V.one (X.d (D.int IntKind.i64 (-(tk l (i + 1)).n)))) D.junk _ 0)
    rw [Int.zero_sub]
  · simp only [q91_0_eq]
    exact S_kind hl.len hi 3 (fun _ _ _ _ _ _ => rfl) fun h2 => Sim.ret fun _ _ _ => rfl

theorem rest_ok (hl : Few l) (e : List UInt8) : ∀ (d i : Nat), i < l.length → l.length - i ≤ d → After l i → ∀ (acc : List E) z z', acc.length ≤ i →
    Sim l esV (fun m k n => l90_0 m (Ak k) n z z' (bx e) (E.rows acc) (toks l) (Int.ofNat i)) (run (pw l) l (.call (.rest e) fun r => .ret (acc ++ r)) i)
  | 0, i, hi, h, _, _, _, _, _ => by omega
  | d + 1, i, hi, h, H, acc, z, z', ha => by
    have g := hl.good
    rw [run_open g _ _ i hi]
    refine Sim.step ?_
    simp only [l90_0_eq]
    refine S_take hl.len hi wCm (fun h => Sim.yes rfl ?_) (fun h => Sim.no rfl ?_)
    · have h1 := nx g hi h
      simp only [q90_1_eq]
      refine Eq.subst (motive := fun r => Sim l esV _ r) (run_call _ _ _).symm ?_
      refine S_E (H _ (by omega) h1).expr (fun _ _ _ _ _ _ => rfl) fun a j hj => ?_
      have hf := pw_ok g h1 hj
      refine Sim.yes (by rw [E.rows_len]; exact roomy _ _ (by have := hl.len; omega) (by omega)) ?_
      rw [← E.rows_app]
      have := rest_ok hl e d j hf.2 (by omega) (fun j' h1 h2 => H j' (by omega) h2) (acc ++ [a]) z z' (by rw [List.length_append, List.length_singleton]; omega)
      simp only [List.append_assoc, List.singleton_append] at this
      exact this
    · simp only [q90_2_eq]
      refine S_want hl.len hi e (fun _ _ _ _ _ _ => rfl) fun h2 => Sim.ret fun _ _ _ => ?_
      rw [List.append_nil]
      rfl
theorem list_ok (hl : Few l) (e : List UInt8) (i : Nat) (hi : i < l.length) (H : After l i) (he : Sim l eV (fun _ k _ => Ak k false 23 [V.one (X.ptr 0 0)] (rds l i)) (pw l .expr i)) (hpos : ∀ a j, pw l .expr i = .ok a j → i < j) :
    Sim l esV (fun _ k _ => Ak k false 90 [V.one (X.ptr 0 0), V.one (X.d (D.str (bx e)))] (rds l i)) (pw l (.list e) i) := by
  have g := hl.good
  rw [pw_eq g _ i hi]
  refine fun hr => call90 _ _ _ ((?_ : Sim l esV (fun _ k n => e90 (Ak k) n (bx e) (toks l) (Int.ofNat i)) (run (pw l) l (body (.list e)) i)) hr)
  clear hr
  simp only [e90_eq]
  refine S_take hl.len hi e (fun h => Sim.yes rfl (Sim.ret fun _ _ _ => ?_)) (fun h => Sim.no rfl ?_)
  · unfold esV
    rw [E.rows_nil]
  · simp only [q90_0_eq]
    refine Eq.subst (motive := fun r => Sim l esV _ r) (run_call _ _ _).symm ?_
    refine S_E he (fun _ _ _ _ _ _ => rfl) fun a j hj => ?_
    have hf := pw_ok g hi hj
    have hp := hpos a j hj
    rw [← E.rows_one]
    exact Sim.diag (rest_ok hl e _ j hf.2 (Nat.le_refl _) (fun j' h1 h2 => H j' (by omega) h2) [a] _ _ (by simp only [List.length_cons, List.length_nil]; omega))

theorem loop_ok (hl : Few l) (n : Nat) (hn : n ≤ 5) : ∀ (d i : Nat), i < l.length → l.length - i ≤ d → After l i → ∀ (left : E) z z' x3 x4 s5 x6 x7,
    Sim l eV (fun m k _ => l56_0 m (Ak k) z z' (Int.ofNat n) (toks l) (Int.ofNat i) x3 x4 s5 x6 x7 left.k left.n (bx left.name) (strs left.names) (ints left.odds) (E.rows left.kids) left.line left.col) (run (pw l) l (.call (.loop n left) .ret) i) ∧
    (left.names = [] → left.odds = [] → Sim l eV (fun m k _ => l56_0_v1 m (Ak k) z z' (Int.ofNat n) (toks l) (Int.ofNat i) x3 x4 s5 x6 x7 left.k left.n (bx left.name) (E.rows left.kids) left.line left.col) (run (pw l) l (.call (.loop n left) .ret) i))
  | 0, i, hi, h, _, _, _, _, _, _, _, _, _ => by omega
  | d + 1, i, hi, h, H, left, z, z', x3, x4, s5, x6, x7 => by
    have g := hl.good
    have hop := C_oper hi n hn
    have e0 : run (pw l) l (.call (.loop n left) .ret) i = if (opsOf n).any (fun s => isT s (tk l i)) then
        run (pw l) l (.call (.level (if n = 3 then 3 else n + 1)) fun r => if n = 2 ∨ n = 3 then .ret (E.mk 7 0 (tk l i).text [] [] [left, r] (tk l i).line (tk l i).col) else .call (.loop n (E.mk 7 0 (tk l i).text [] [] [left, r] (tk l i).line (tk l i).col)) .ret) (i + 1) else .ok left i := by
      have : run (pw l) l (.call (.loop n left) .ret) i = run (pw l) l (body (.loop n left)) i := by
        rw [run_call, pw_eq g _ i hi]
        cases run (pw l) l (body (.loop n left)) i <;> rfl
      rw [this]
      exact run_any _ _ i (opsOf n)
    have go : ∀ {F : Nat → Nat → Nat → Option Out}, (opsOf n).any (fun s => isT s (tk l i)) = true →
        (i + 1 < l.length → Sim l eV F (thenR (pw l (.level (if n = 3 then 3 else n + 1)) (i + 1)) fun r j => run (pw l) l (if n = 2 ∨ n = 3 then .ret (E.mk 7 0 (tk l i).text [] [] [left, r] (tk l i).line (tk l i).col) else .call (.loop n (E.mk 7 0 (tk l i).text [] [] [left, r] (tk l i).line (tk l i).col)) .ret) j)) →
        Sim l eV F (run (pw l) l (.call (.loop n left) .ret) i) := fun {F} ha hf => by
      rw [e0, if_pos ha, run_call]
      obtain ⟨s, _, hs⟩ := List.any_eq_true.1 ha
      exact hf (nx g hi hs)
    have stop : (opsOf n).any (fun s => isT s (tk l i)) = false → ∀ {F : Nat → Nat → Nat → Option Out}, (∀ m k n', F m k n' = some ⟨true, eV left, D.junk, [rd l i], 0⟩) → Sim l eV F (run (pw l) l (.call (.loop n left) .ret) i) := fun ha {F} hf => by
      rw [e0, ha]
      exact fun _ => Ev.of hf
    have ne : (opsOf n).any (fun s => isT s (tk l i)) = true → beqL (bx (tk l i).text).data.toList (ByteArray.mk #[]).data.toList = false := fun ha => by
      obtain ⟨s, hs, ht⟩ := List.any_eq_true.1 ha
      rw [show (ByteArray.mk #[]).data.toList = [] from rfl, bx_data, beqL_eq]
      unfold isT at ht
      rw [Bool.and_eq_true, beq_iff_eq] at ht
      rw [ht.2]
      have : s ≠ [] := fun e => by
        subst e
        match n, hn with
        | 0, _ | 1, _ | 2, _ | 3, _ | 4, _ | 5, _ => simp [opsOf] at hs
      simpa using this
    have rows2 : ∀ r : E, [[D.int IntKind.i64 left.k, D.int IntKind.i64 left.n, D.str (bx left.name), D.list 1 (strs left.names), D.list 1 (ints left.odds), D.list 8 (E.rows left.kids), D.int IntKind.i64 left.line, D.int IntKind.i64 left.col],
        [D.int IntKind.i64 r.k, D.int IntKind.i64 r.n, D.str (bx r.name), D.list 1 (strs r.names), D.list 1 (ints r.odds), D.list 8 (E.rows r.kids), D.int IntKind.i64 r.line, D.int IntKind.i64 r.col]] = E.rows [left, r] := fun r => by rw [E.rows_cons, E.rows_cons, E.rows_nil]
    have b3 : (Int.ofNat n == 3) = decide (n = 3) := by
      rw [Bool.eq_iff_iff, beq_iff_eq, decide_eq_true_eq]
      simp only [Int.ofNat_eq_natCast]
      omega
    have b2 : (Int.ofNat n == 2) = decide (n = 2) := by
      rw [Bool.eq_iff_iff, beq_iff_eq, decide_eq_true_eq]
      simp only [Int.ofNat_eq_natCast]
      omega
    have fin : ∀ r j, i + 1 ≤ j → j < l.length → ∀ z z' x3 x4 s5 x6 x7 {F : Nat → Nat → Nat → Option Out},
        (∀ m k n', F m k n' = bif Int.ofNat n == 2 then some (Out.mk true (eV (E.mk 7 0 (tk l i).text [] [] [left, r] (tk l i).line (tk l i).col)) D.junk [rd l j] 0) else bif Int.ofNat n == 3 then some (Out.mk true (eV (E.mk 7 0 (tk l i).text [] [] [left, r] (tk l i).line (tk l i).col)) D.junk [rd l j] 0) else
          l56_0_v1 m (Ak k) z z' (Int.ofNat n) (toks l) (Int.ofNat j) x3 x4 s5 x6 x7 7 0 (bx (tk l i).text) (E.rows [left, r]) (tk l i).line (tk l i).col) →
        Sim l eV F (run (pw l) l (if n = 2 ∨ n = 3 then .ret (E.mk 7 0 (tk l i).text [] [] [left, r] (tk l i).line (tk l i).col) else .call (.loop n (E.mk 7 0 (tk l i).text [] [] [left, r] (tk l i).line (tk l i).col)) .ret) j) := fun r j hj hjl z z' x3 x4 s5 x6 x7 F hF => by
      refine Sim.eq ?_ hF
      rw [b2, b3]
      by_cases h2 : n = 2
      · rw [decide_eq_true h2, if_pos (.inl h2)]
        exact Sim.ret fun _ _ _ => rfl
      · rw [decide_eq_false h2]
        by_cases h3 : n = 3
        · rw [decide_eq_true h3, if_pos (.inr h3)]
          exact Sim.ret fun _ _ _ => rfl
        · rw [decide_eq_false h3, if_neg (fun q => q.elim h2 h3)]
          exact (loop_ok hl n hn d j hjl (by omega) (fun j' h1 h2 => H j' (by omega) h2) (E.mk 7 0 (tk l i).text [] [] [left, r] (tk l i).line (tk l i).col) z z' x3 x4 s5 x6 x7).2 rfl rfl
    refine ⟨?_, fun hns hos => ?_⟩
    · refine Sim.step ?_
      simp only [l56_0_eq]
      refine fun hr => v_a5ISIII_L5I (C_token hi) (v_oS_L5I hop ?_)
      cases ha : (opsOf n).any (fun s => isT s (tk l i)) with
      | false =>
        have e1 : opAt n (tk l i) = [] := by unfold opAt; rw [ha]; rfl
        refine (stop ha fun m k n' => ?_) hr
        rw [e1]
        rfl
      | true =>
        have e1 : opAt n (tk l i) = (tk l i).text := by unfold opAt; rw [ha]; rfl
        rw [e1]
        refine (go ha fun h1 => ?_) hr
        refine Sim.no (ne ha) ?_
        simp only [q56_1_eq]
        refine S_begin 7 (tk l i) ?_
        rw [up hl.len hi]
        by_cases h3 : n = 3
        · refine Sim.yes (by rw [b3, decide_eq_true h3]) ?_
          simp only [q56_2_eq]
          rw [if_pos h3]
          refine S_E ((H _ (by omega) h1).level 3 (by omega)) (fun _ _ _ _ _ _ => rfl) fun r j hj => ?_
          have hf := pw_ok g h1 hj
          refine fin r j hf.1 hf.2 z z' x3 x4 s5 x6 x7 fun m k n' => ?_
          have := rows2 r
          skip
          unfold eV
          simp only [E.k, E.n, E.name, E.names, E.odds, E.kids, E.line, E.col, q56_3_eq, ← this]
          rfl
        · refine Sim.no (by rw [b3, decide_eq_false h3]) ?_
          simp only [q56_2_eq]
          rw [if_neg h3, wrap_up n (by omega)]
          refine S_E ((H _ (by omega) h1).level (n + 1) (by omega)) (fun _ _ _ _ _ _ => rfl) fun r j hj => ?_
          have hf := pw_ok g h1 hj
          refine fin r j hf.1 hf.2 z z' x3 x4 s5 x6 x7 fun m k n' => ?_
          have := rows2 r
          skip
          unfold eV
          simp only [E.k, E.n, E.name, E.names, E.odds, E.kids, E.line, E.col, q56_3_eq, ← this]
          rfl
    · refine Sim.step ?_
      simp only [l56_0_v1_eq]
      refine fun hr => v_a5ISIII_L5I (C_token hi) (v_oS_L5I hop ?_)
      cases ha : (opsOf n).any (fun s => isT s (tk l i)) with
      | false =>
        have e1 : opAt n (tk l i) = [] := by unfold opAt; rw [ha]; rfl
        refine (stop ha fun m k n' => ?_) hr
        rw [e1]
        unfold eV
        rw [hns, hos]
        rfl
      | true =>
        have e1 : opAt n (tk l i) = (tk l i).text := by unfold opAt; rw [ha]; rfl
        rw [e1]
        refine (go ha fun h1 => ?_) hr
        refine Sim.no (ne ha) ?_
        simp only [q56_1_v1_eq]
        refine S_begin 7 (tk l i) ?_
        rw [up hl.len hi]
        by_cases h3 : n = 3
        · refine Sim.yes (by rw [b3, decide_eq_true h3]) ?_
          simp only [q56_2_v1_eq]
          rw [if_pos h3]
          refine S_E ((H _ (by omega) h1).level 3 (by omega)) (fun _ _ _ _ _ _ => rfl) fun r j hj => ?_
          have hf := pw_ok g h1 hj
          refine fin r j hf.1 hf.2 z z' x3 x4 s5 x6 x7 fun m k n' => ?_
          have := rows2 r
          rw [hns, hos] at this
          unfold eV
          simp only [E.k, E.n, E.name, E.names, E.odds, E.kids, E.line, E.col, q56_3_v1_eq, ← this]
          rfl
        · refine Sim.no (by rw [b3, decide_eq_false h3]) ?_
          simp only [q56_2_v1_eq]
          rw [if_neg h3, wrap_up n (by omega)]
          refine S_E ((H _ (by omega) h1).level (n + 1) (by omega)) (fun _ _ _ _ _ _ => rfl) fun r j hj => ?_
          have hf := pw_ok g h1 hj
          refine fin r j hf.1 hf.2 z z' x3 x4 s5 x6 x7 fun m k n' => ?_
          have := rows2 r
          rw [hns, hos] at this
          unfold eV
          simp only [E.k, E.n, E.name, E.names, E.odds, E.kids, E.line, E.col, q56_3_v1_eq, ← this]
          rfl
end
end Go.Proofs.YtbmcafehpgimfaaGreat.Ps
namespace Go.Proofs.YtbmcafehpgimfaaGreat.Ps
set_option linter.unusedVariables false
set_option linter.unusedSimpArgs false
open Go Go.RowKit Px
open Lx (Tok)
open Pm (want)

section
variable {l : List Tok} {P : (q : NT) → Nat → Rs (Ret q)}
theorem S_ret {k n : Int} {s : List UInt8} {ns : List (List UInt8)} {os : List Int} {ks : List E} {a b : Int} {rows names odds : List (List D)} {j : Nat} {F : Nat → Nat → Nat → Option Out}
    (h1 : rows = E.rows ks) (h2 : names = strs ns) (h3 : odds = ints os)
    (hF : ∀ m k' n', F m k' n' = some ⟨true, V.agg [iX k, iX n, sX s, X.d (D.list 1 names), X.d (D.list 1 odds), X.d (D.list 8 rows), iX a, iX b], D.junk, [rd l j], 0⟩) :
    Sim l eV F (run P l (.ret (E.mk k n s ns os ks a b)) j) := by
  subst h1 h2 h3
  exact Sim.ret hF
theorem S_fail {α : Type} {enc : α → V} {i : Nat} (hi : i < l.length) {K : Nat → Nat → Nat → List (List D) → Int → Option Out} {Q : Nat → Nat → Nat → D → List (List D) → Int → Option Out} (hp : PanOn Q) :
    Sim l enc (fun m k n => r_n_L5I (Ak k false 36 [V.one (X.ptr 0 0)] (rds l i)) (K m k n) (Q m k n)) (run P l .fail i) :=
  fun hr => u_n_L5I (C_fail hi) (Ev.of fun m k n => hp m k n _ _ _)
theorem E.rows_two (x y : E) : E.rows [x, y] = [[D.int IntKind.i64 x.k, D.int IntKind.i64 x.n, D.str (bx x.name), D.list 1 (strs x.names), D.list 1 (ints x.odds), D.list 8 (E.rows x.kids), D.int IntKind.i64 x.line, D.int IntKind.i64 x.col], [D.int IntKind.i64 y.k, D.int IntKind.i64 y.n, D.str (bx y.name), D.list 1 (strs y.names), D.list 1 (ints y.odds), D.list 8 (E.rows y.kids), D.int IntKind.i64 y.line, D.int IntKind.i64 y.col]] := by
  rw [E.rows_cons, E.rows_cons, E.rows_nil]
theorem E.rows_three (x y z : E) : E.rows [x, y, z] = [[D.int IntKind.i64 x.k, D.int IntKind.i64 x.n, D.str (bx x.name), D.list 1 (strs x.names), D.list 1 (ints x.odds), D.list 8 (E.rows x.kids), D.int IntKind.i64 x.line, D.int IntKind.i64 x.col], [D.int IntKind.i64 y.k, D.int IntKind.i64 y.n, D.str (bx y.name), D.list 1 (strs y.names), D.list 1 (ints y.odds), D.list 8 (E.rows y.kids), D.int IntKind.i64 y.line, D.int IntKind.i64 y.col], [D.int IntKind.i64 z.k, D.int IntKind.i64 z.n, D.str (bx z.name), D.list 1 (strs z.names), D.list 1 (ints z.odds), D.list 8 (E.rows z.kids), D.int IntKind.i64 z.line, D.int IntKind.i64 z.col]] := by
  rw [E.rows_cons, E.rows_cons, E.rows_cons, E.rows_nil]
theorem lets_ok (hl : Few l) (i : Nat) (hi : i < l.length) (H : After l i) (t : Tok) (ns : List (List UInt8)) (z' : List (List D)) (z3 x2 x3 : Int) (s4 : ByteArray) (x5 x6 : Int) :
    Sim l eV (fun _ k n => q23_2 (Ak k) n z' z3 (toks l) (Int.ofNat i) x2 x3 s4 x5 x6 8 0 (bx []) (strs ns) t.line t.col) (run (pw l) l (lets t ns) i) := by
  have g := hl.good
  simp only [q23_2_eq]
  unfold lets
  refine S_want hl.len hi wEq (fun _ _ _ _ _ _ => rfl) fun h => ?_
  have h1 := nx g hi h
  rw [run_call]
  refine S_E (H _ (by omega) h1).expr (fun _ _ _ _ _ _ => rfl) fun a j hj => ?_
  have hf := pw_ok g h1 hj
  refine S_want hl.len hf.2 wIn (fun _ _ _ _ _ _ => rfl) fun h2 => ?_
  have h3 := nx g hf.2 h2
  rw [run_call]
  refine S_E (H _ (by omega) h3).expr (fun _ _ _ _ _ _ => rfl) fun b j2 hj2 => ?_
  exact S_ret (E.rows_two a b).symm rfl rfl fun _ _ _ => rfl
theorem names_ok (hl : Few l) (t : Tok) (z' : List (List D)) (z3 x2 x3 : Int) (s4 : ByteArray) (x5 x6 : Int) : ∀ (d i : Nat), i < l.length → l.length - i ≤ d → After l i → ∀ acc : List (List UInt8), acc.length ≤ i →
    Sim l eV (fun m k n => l23_0 m (Ak k) n z' z3 (toks l) (Int.ofNat i) x2 x3 s4 x5 x6 8 0 (bx []) (strs acc) t.line t.col) (run (pw l) l (.call .names fun r => lets t (acc ++ r)) i)
  | 0, i, hi, h, _, _, _ => by omega
  | d + 1, i, hi, h, H, acc, ha => by
    have g := hl.good
    rw [run_open g _ _ i hi]
    refine Sim.step ?_
    simp only [l23_0_eq]
    refine S_take hl.len hi wCm (fun h => Sim.yes rfl ?_) (fun h => Sim.no rfl ?_)
    · have h1 := nx g hi h
      simp only [q23_0_eq]
      refine S_kind hl.len h1 1 (fun _ _ _ _ _ _ => rfl) fun h2 => ?_
      have h3 := nxk g h1 h2 (by decide)
      refine Sim.yes (by rw [strs_len]; exact roomy _ _ (by have := hl.len; omega) (by omega)) ?_
      rw [← strs_app]
      have := names_ok hl t z' z3 x2 x3 s4 x5 x6 d (i + 1 + 1) h3 (by omega) (fun j' h1 h2 => H j' (by omega) h2) (acc ++ [(tk l (i + 1)).text]) (by rw [List.length_append, List.length_singleton]; omega)
      simp only [List.append_assoc, List.singleton_append] at this
      exact this
    · simp only [q23_1_eq]
      refine S_want hl.len hi wRp (fun _ _ _ _ _ _ => rfl) fun h2 => ?_
      have h3 := nx g hi h2
      show Sim l eV _ (run (pw l) l (lets t (acc ++ [])) (i + 1))
      rw [List.append_nil]
      exact lets_ok hl (i + 1) h3 (fun j' h1 h2 => H j' (by omega) h2) t acc z' z3 x2 x3 s4 x5 x6

theorem case_ok (hl : Few l) (i : Nat) (hi : i < l.length) (H : After l i) (t : Tok) (x : E) (z' : List (List D)) (z3 x2 x3 : Int) (s4 : ByteArray) (x5 x6 : Int) :
    Sim l eV (fun m k n => l23_1 m (Ak k) n z' z3 (strs [wOf, wLb, wRb, wAr]) 4 0 (toks l) (Int.ofNat i) x2 x3 s4 x5 x6 10 0 (bx []) (E.rows [x]) t.line t.col) (run (pw l) l (want wOf (want wLb (want wRb (want wAr (caseK2 t x))))) i) := by
  have g := hl.good
  refine Sim.step ?_
  simp only [l23_1_eq, q23_3_eq, q23_4_eq]
  refine Sim.yes rfl (Sim.yes rfl ?_)
  refine S_want hl.len hi wOf (fun _ _ _ _ _ _ => rfl) fun h => ?_
  have h1 := nx g hi h
  refine Sim.step ?_
  simp only [l23_1_eq, q23_3_eq, q23_4_eq]
  refine Sim.yes rfl (Sim.yes rfl ?_)
  refine S_want hl.len h1 wLb (fun _ _ _ _ _ _ => rfl) fun h => ?_
  have h2 := nx g h1 h
  refine Sim.step ?_
  simp only [l23_1_eq, q23_3_eq, q23_4_eq]
  refine Sim.yes rfl (Sim.yes rfl ?_)
  refine S_want hl.len h2 wRb (fun _ _ _ _ _ _ => rfl) fun h => ?_
  have h3 := nx g h2 h
  refine Sim.step ?_
  simp only [l23_1_eq, q23_3_eq, q23_4_eq]
  refine Sim.yes rfl (Sim.yes rfl ?_)
  refine S_want hl.len h3 wAr (fun _ _ _ _ _ _ => rfl) fun h => ?_
  have h4 := nx g h3 h
  refine Sim.step ?_
  simp only [l23_1_eq, q23_5_eq]
  refine Sim.no rfl ?_
  refine Eq.subst (motive := fun r => Sim l eV _ r) (run_call _ _ _).symm ?_
  refine S_E (H _ (by omega) h4).expr (fun _ _ _ _ _ _ => rfl) fun a j hj => ?_
  have hf := pw_ok g h4 hj
  refine Sim.yes (by rw [E.rows_len]; rfl) ?_
  refine S_want hl.len hf.2 wBar (fun _ _ _ _ _ _ => rfl) fun h => ?_
  have h5 := nx g hf.2 h
  refine S_kind hl.len h5 1 (fun _ _ _ _ _ _ => rfl) fun h => ?_
  have h6 := nxk g h5 h (by decide)
  refine S_want hl.len h6 wCc (fun _ _ _ _ _ _ => rfl) fun h => ?_
  have h7 := nx g h6 h
  refine S_kind hl.len h7 1 (fun _ _ _ _ _ _ => rfl) fun h => ?_
  have h8 := nxk g h7 h (by decide)
  refine S_want hl.len h8 wAr (fun _ _ _ _ _ _ => rfl) fun h => ?_
  have h9 := nx g h8 h
  refine Eq.subst (motive := fun r => Sim l eV _ r) (run_call _ _ _).symm ?_
  refine S_E (H _ (by omega) h9).expr (fun _ _ _ _ _ _ => rfl) fun b j2 hj2 => ?_
  refine Sim.yes (by rw [List.length_append, E.rows_len]; rfl) ?_
  refine S_ret ?_ rfl rfl fun _ _ _ => rfl
  rw [← E.rows_app, ← E.rows_app]
  rfl

theorem expr_ok (hl : Few l) (i : Nat) (hi : i < l.length) (H : After l i) (h0 : Sim l eV (fun _ k _ => Ak k false 56 [V.one (X.ptr 0 0), V.one (X.d (D.int IntKind.i64 0))] (rds l i)) (pw l (.level 0) i)) :
    Sim l eV (fun _ k _ => Ak k false 23 [V.one (X.ptr 0 0)] (rds l i)) (pw l .expr i) := by
  have g := hl.good
  rw [pw_eq g _ i hi]
  refine fun hr => call23 _ _ ((?_ : Sim l eV (fun _ k n => e23 (Ak k) n (toks l) (Int.ofNat i)) (run (pw l) l (body .expr) i)) hr)
  clear hr
  simp only [e23_eq]
  refine S_token hi ?_
  refine S_take hl.len hi wLet (fun h => Sim.yes rfl ?_) (fun h => Sim.no rfl ?_)
  · have h1 := nx g hi h
    refine S_begin 8 (tk l i) ?_
    refine S_take hl.len h1 wLp (fun h => Sim.yes rfl ?_) (fun h => Sim.no rfl ?_)
    · have h2 := nx g h1 h
      refine S_kind hl.len h2 1 (fun _ _ _ _ _ _ => rfl) fun h => ?_
      have h3 := nxk g h2 h (by decide)
      refine S_want hl.len h3 wCm (fun _ _ _ _ _ _ => rfl) fun h => ?_
      have h4 := nx g h3 h
      refine S_kind hl.len h4 1 (fun _ _ _ _ _ _ => rfl) fun h => ?_
      have h5 := nxk g h4 h (by decide)
      exact Sim.diag (names_ok hl (tk l i) _ _ _ _ _ _ _ _ _ h5 (Nat.le_refl _) (fun j' h1 h2 => H j' (by omega) h2) [(tk l (i + 1 + 1)).text, (tk l (i + 1 + 1 + 1 + 1)).text] (by simp only [List.length_cons, List.length_nil]; omega))
    · refine S_kind hl.len h1 1 (fun _ _ _ _ _ _ => rfl) fun h => ?_
      have h3 := nxk g h1 h (by decide)
      exact lets_ok hl _ h3 (fun j' h1 h2 => H j' (by omega) h2) (tk l i) [(tk l (i + 1)).text] _ _ _ _ _ _ _
  refine S_take hl.len hi wIf (fun h => Sim.yes rfl ?_) (fun h => Sim.no rfl ?_)
  · have h1 := nx g hi h
    refine S_begin 9 (tk l i) ?_
    refine Eq.subst (motive := fun r => Sim l eV _ r) (run_call _ _ _).symm ?_
    refine S_E (H _ (by omega) h1).expr (fun _ _ _ _ _ _ => rfl) fun a j hj => ?_
    have hf := pw_ok g h1 hj
    refine S_want hl.len hf.2 wThen (fun _ _ _ _ _ _ => rfl) fun h => ?_
    have h2 := nx g hf.2 h
    refine Eq.subst (motive := fun r => Sim l eV _ r) (run_call _ _ _).symm ?_
    refine S_E (H _ (by omega) h2).expr (fun _ _ _ _ _ _ => rfl) fun b j2 hj2 => ?_
    have hf2 := pw_ok g h2 hj2
    refine S_want hl.len hf2.2 wElse (fun _ _ _ _ _ _ => rfl) fun h => ?_
    have h3 := nx g hf2.2 h
    refine Eq.subst (motive := fun r => Sim l eV _ r) (run_call _ _ _).symm ?_
    refine S_E (H _ (by omega) h3).expr (fun _ _ _ _ _ _ => rfl) fun c j3 hj3 => ?_
    exact S_ret (E.rows_three a b c).symm rfl rfl fun _ _ _ => rfl
  refine S_take hl.len hi wCase (fun h => Sim.yes rfl ?_) (fun h => Sim.no rfl ?_)
  · have h1 := nx g hi h
    refine S_begin 10 (tk l i) ?_
    refine Eq.subst (motive := fun r => Sim l eV _ r) (run_call _ _ _).symm ?_
    refine S_E (H _ (by omega) h1).expr (fun _ _ _ _ _ _ => rfl) fun a j hj => ?_
    have hf := pw_ok g h1 hj
    rw [← E.rows_one]
    exact Sim.diag (case_ok hl j hf.2 (fun j' h1 h2 => H j' (by omega) h2) (tk l i) a _ _ _ _ _ _ _)
  refine S_take hl.len hi wObserve (fun h => Sim.yes rfl ?_) (fun h => Sim.no rfl ?_)
  · have h1 := nx g hi h
    refine S_begin 11 (tk l i) ?_
    refine Eq.subst (motive := fun r => Sim l eV _ r) (run_call _ _ _).symm ?_
    refine S_E (H _ (by omega) h1).expr (fun _ _ _ _ _ _ => rfl) fun a j hj => ?_
    have hf := pw_ok g h1 hj
    refine S_want hl.len hf.2 wIn (fun _ _ _ _ _ _ => rfl) fun h => ?_
    have h2 := nx g hf.2 h
    refine Eq.subst (motive := fun r => Sim l eV _ r) (run_call _ _ _).symm ?_
    refine S_E (H _ (by omega) h2).expr (fun _ _ _ _ _ _ => rfl) fun b j2 hj2 => ?_
    exact S_ret (E.rows_two a b).symm rfl rfl fun _ _ _ => rfl
  refine S_take hl.len hi wScore (fun h => Sim.yes rfl ?_) (fun h => Sim.no rfl ?_)
  · have h1 := nx g hi h
    refine S_begin 12 (tk l i) ?_
    refine Eq.subst (motive := fun r => Sim l eV _ r) (run_call _ _ _).symm ?_
    refine S_O (share_ok hl _ h1) (fun _ _ _ _ _ _ => rfl) fun a j hj => ?_
    have hf := pw_ok g h1 hj
    refine S_want hl.len hf.2 wIn (fun _ _ _ _ _ _ => rfl) fun h => ?_
    have h2 := nx g hf.2 h
    refine Eq.subst (motive := fun r => Sim l eV _ r) (run_call _ _ _).symm ?_
    refine S_E (H _ (by omega) h2).expr (fun _ _ _ _ _ _ => rfl) fun b j2 hj2 => ?_
    exact S_ret (E.rows_one b).symm rfl rfl fun _ _ _ => rfl
  simp only [q23_6_eq]
  refine Eq.subst (motive := fun r => Sim l eV _ r) (run_call _ _ _).symm ?_
  exact S_E h0 (fun _ _ _ _ _ _ => rfl) fun a j hj => Sim.ret fun _ _ _ => rfl

theorem unary_ok (hl : Few l) (i : Nat) (hi : i < l.length) (H : After l i) (h0 : Sim l eV (fun _ k _ => Ak k false 84 [V.one (X.ptr 0 0)] (rds l i)) (pw l .atom i)) :
    Sim l eV (fun _ k _ => Ak k false 75 [V.one (X.ptr 0 0)] (rds l i)) (pw l .unary i) := by
  have g := hl.good
  rw [pw_eq g _ i hi]
  refine fun hr => call75 _ _ ((?_ : Sim l eV (fun _ k n => e75 (Ak k) n (toks l) (Int.ofNat i)) (run (pw l) l (body .unary) i)) hr)
  clear hr
  simp only [e75_eq, q75_0_eq]
  refine S_token hi ?_
  refine S_take hl.len hi wNot (fun h => Sim.yes rfl ?_) (fun h => Sim.no rfl ?_)
  · have h1 := nx g hi h
    refine S_begin 7 (tk l i) ?_
    refine Eq.subst (motive := fun r => Sim l eV _ r) (run_call _ _ _).symm ?_
    refine S_E (H _ (by omega) h1).unary (fun _ _ _ _ _ _ => rfl) fun a j hj => ?_
    exact S_ret (E.rows_one a).symm rfl rfl fun _ _ _ => rfl
  refine S_take hl.len hi wMi (fun h => Sim.yes rfl ?_) (fun h => Sim.no rfl ?_)
  · have h1 := nx g hi h
    refine S_begin 7 (tk l i) ?_
    refine Eq.subst (motive := fun r => Sim l eV _ r) (run_call _ _ _).symm ?_
    refine S_E (H _ (by omega) h1).unary (fun _ _ _ _ _ _ => rfl) fun a j hj => ?_
    exact S_ret (E.rows_one a).symm rfl rfl fun _ _ _ => rfl
  refine Eq.subst (motive := fun r => Sim l eV _ r) (run_call _ _ _).symm ?_
  exact S_E h0 (fun _ _ _ _ _ _ => rfl) fun a j hj => Sim.ret fun _ _ _ => rfl
theorem body_level (n : Nat) (hn : n ≤ 5) : body (.level n) = .call (.level (n + 1)) fun l => .call (.loop n l) .ret := by
  match n, hn with
  | 0, _ | 1, _ | 2, _ | 3, _ | 4, _ | 5, _ => rfl
theorem level_ok (hl : Few l) (n : Nat) (hn : n ≤ 5) (i : Nat) (hi : i < l.length) (H : After l i)
    (h0 : Sim l eV (fun _ k _ => Ak k false 56 [V.one (X.ptr 0 0), V.one (X.d (D.int IntKind.i64 (Int.ofNat (n + 1))))] (rds l i)) (pw l (.level (n + 1)) i)) :
    Sim l eV (fun _ k _ => Ak k false 56 [V.one (X.ptr 0 0), V.one (X.d (D.int IntKind.i64 (Int.ofNat n)))] (rds l i)) (pw l (.level n) i) := by
  have g := hl.good
  rw [pw_eq g _ i hi, body_level n hn]
  refine fun hr => call56 _ _ _ ((?_ : Sim l eV (fun _ k n' => e56 (Ak k) n' (Int.ofNat n) (toks l) (Int.ofNat i)) (run (pw l) l (.call (.level (n + 1)) fun l => .call (.loop n l) .ret) i)) hr)
  clear hr
  simp only [e56_eq, q56_0_eq]
  refine Sim.no (by rw [beq_eq_false_iff_ne]; simp only [Int.ofNat_eq_natCast]; omega) ?_
  rw [wrap_up n (by omega)]
  refine Eq.subst (motive := fun r => Sim l eV _ r) (run_call _ _ _).symm ?_
  refine S_E h0 (fun _ _ _ _ _ _ => rfl) fun a j hj => ?_
  have hf := pw_ok g hi hj
  exact Sim.diag (loop_ok hl n hn _ j hf.2 (Nat.le_refl _) (fun j' h1 h2 => H j' (by omega) h2) a _ _ _ _ _ _ _).1
theorem level6_ok (hl : Few l) (i : Nat) (hi : i < l.length)
    (h0 : Sim l eV (fun _ k _ => Ak k false 75 [V.one (X.ptr 0 0)] (rds l i)) (pw l .unary i)) :
    Sim l eV (fun _ k _ => Ak k false 56 [V.one (X.ptr 0 0), V.one (X.d (D.int IntKind.i64 (Int.ofNat 6)))] (rds l i)) (pw l (.level 6) i) := by
  have g := hl.good
  rw [pw_eq g _ i hi]
  refine fun hr => call56 _ _ _ ((?_ : Sim l eV (fun _ k n' => e56 (Ak k) n' (Int.ofNat 6) (toks l) (Int.ofNat i)) (run (pw l) l (.call .unary .ret) i)) hr)
  clear hr
  simp only [e56_eq]
  refine Sim.yes rfl ?_
  refine Eq.subst (motive := fun r => Sim l eV _ r) (run_call _ _ _).symm ?_
  exact S_E h0 (fun _ _ _ _ _ _ => rfl) fun a j hj => Sim.ret fun _ _ _ => rfl
end
end Go.Proofs.YtbmcafehpgimfaaGreat.Ps
namespace Go.Proofs.YtbmcafehpgimfaaGreat.Ps
set_option linter.unusedVariables false
set_option linter.unusedSimpArgs false
open Go Go.RowKit Px
open Lx (Tok)

abbrev RB : List Lf := [Lf.lst 5, Lf.int IntKind.i64, Lf.bool]
abbrev rb (l : List Tok) (i : Nat) (b : Bool) : List X := [X.d (D.list 5 (toks l)), X.d (D.int IntKind.i64 (Int.ofNat i)), X.d (D.bool b)]
abbrev rbs (l : List Tok) (i : Nat) (b : Bool) : List (List Lf × List X) := [(RB, rb l i b)]
abbrev ro (v : V) (l : List Tok) (i : Nat) (b : Bool) : Out := ⟨true, v, D.junk, [rb l i b], 0⟩
abbrev P0 : V := V.one (X.ptr 0 0)
def BG (l : List Tok) (G : V → Prop) (F : Nat → Nat → Nat → Option Out) (j : Nat) : Prop := ∃ v, G v ∧ Ev F (ro v l j true)
def RG {α : Type} (l : List Tok) (enc : α → V) (G : V → Prop) (F : Nat → Nat → Nat → Option Out) : Rs α → Prop
  | .ok a j => Ev F (ro (enc a) l j false)
  | .no j => BG l G F j
  | .out => True
def GE (v : V) : Prop := ∃ (k n : Int) (s : ByteArray) (a b c : List (List D)) (x y : Int), v = V.agg [X.d (D.int IntKind.i64 k), X.d (D.int IntKind.i64 n), X.d (D.str s), X.d (D.list 1 a), X.d (D.list 1 b), X.d (D.list 8 c), X.d (D.int IntKind.i64 x), X.d (D.int IntKind.i64 y)]
def RowE (r : List D) : Prop := ∃ (k n : Int) (s : ByteArray) (a b c : List (List D)) (x y : Int), r = [D.int IntKind.i64 k, D.int IntKind.i64 n, D.str s, D.list 1 a, D.list 1 b, D.list 8 c, D.int IntKind.i64 x, D.int IntKind.i64 y]
abbrev RowsE (c : List (List D)) : Prop := ∀ r ∈ c, RowE r
def GL (v : V) : Prop := ∃ c : List (List D), RowsE c ∧ v = V.one (X.d (D.list 8 c))
theorem rowsE (l : List E) : RowsE (E.rows l) := fun r hr => by
  rw [E.rows_map] at hr
  obtain ⟨e, _, rfl⟩ := List.mem_map.1 hr
  rw [E.row_eq]
  exact ⟨_, _, _, _, _, _, _, _, rfl⟩
theorem rowsE_app {c : List (List D)} (h : RowsE c) (k n : Int) (s : ByteArray) (a b d : List (List D)) (x y : Int) : RowsE (c ++ [[D.int IntKind.i64 k, D.int IntKind.i64 n, D.str s, D.list 1 a, D.list 1 b, D.list 8 d, D.int IntKind.i64 x, D.int IntKind.i64 y]]) := fun r hr => by
  rcases List.mem_append.1 hr with hr | hr
  · exact h r hr
  · rw [List.mem_singleton.1 hr]
    exact ⟨_, _, _, _, _, _, _, _, rfl⟩
def GO (v : V) : Prop := ∃ c : List (List D), v = V.one (X.d (D.list 1 c))
def GI (v : V) : Prop := ∃ n : Int, v = V.one (X.d (D.int IntKind.i64 n))
section
variable {l : List Tok} {G : V → Prop} {j : Nat}
theorem BG.map {F F' : Nat → Nat → Nat → Option Out} (H : ∀ o, Ev F o → Ev F' o) (h : BG l G F j) : BG l G F' j := by
  obtain ⟨v, hv, h⟩ := h
  exact ⟨v, hv, H _ h⟩
theorem BG.step {F : Nat → Nat → Nat → Option Out} (h : BG l G (fun m k n => F (m + 1) k n) j) : BG l G F j := h.map fun _ => Ev.step
theorem BG.diag {F : Nat → Nat → Nat → Option Out} (h : BG l G F j) : BG l G (fun m k n => F n k n) j := h.map fun _ => Ev.diag
theorem BG.yes {c : Bool} {F F' : Nat → Nat → Nat → Option Out} (hc : c = true) (h : BG l G F j) : BG l G (fun m k n => bif c then F m k n else F' m k n) j := h.map fun _ => Ev.yes hc
theorem BG.no {c : Bool} {F F' : Nat → Nat → Nat → Option Out} (hc : c = false) (h : BG l G F' j) : BG l G (fun m k n => bif c then F m k n else F' m k n) j := h.map fun _ => Ev.no hc
theorem BG.ret {v : V} (h : G v) : BG l G (fun _ _ _ => some (ro v l j true)) j := ⟨v, h, Ev.ret _⟩
theorem GE.is (k n : Int) (s : ByteArray) (a b c : List (List D)) (x y : Int) : GE (V.agg [X.d (D.int IntKind.i64 k), X.d (D.int IntKind.i64 n), X.d (D.str s), X.d (D.list 1 a), X.d (D.list 1 b), X.d (D.list 8 c), X.d (D.int IntKind.i64 x), X.d (D.int IntKind.i64 y)]) := ⟨k, n, s, a, b, c, x, y, rfl⟩
theorem GL.is {c : List (List D)} (h : RowsE c) : GL (V.one (X.d (D.list 8 c))) := ⟨c, h, rfl⟩
theorem GO.is (c : List (List D)) : GO (V.one (X.d (D.list 1 c))) := ⟨c, rfl⟩
theorem GI.is (n : Int) : GI (V.one (X.d (D.int IntKind.i64 n))) := ⟨n, rfl⟩
variable {α : Type} {enc : α → V}
theorem RG.map {F F' : Nat → Nat → Nat → Option Out} (H : ∀ o, Ev F o → Ev F' o) {r : Rs α} (h : RG l enc G F r) : RG l enc G F' r := by
  cases r with
  | ok a j => exact H _ h
  | no j => exact BG.map H h
  | out => trivial
theorem RG.step {F : Nat → Nat → Nat → Option Out} {r : Rs α} (h : RG l enc G (fun m k n => F (m + 1) k n) r) : RG l enc G F r := h.map fun _ => Ev.step
theorem RG.diag {F : Nat → Nat → Nat → Option Out} {r : Rs α} (h : RG l enc G F r) : RG l enc G (fun m k n => F n k n) r := h.map fun _ => Ev.diag
theorem RG.yes {c : Bool} {F F' : Nat → Nat → Nat → Option Out} {r : Rs α} (hc : c = true) (h : RG l enc G F r) : RG l enc G (fun m k n => bif c then F m k n else F' m k n) r := h.map fun _ => Ev.yes hc
theorem RG.no {c : Bool} {F F' : Nat → Nat → Nat → Option Out} {r : Rs α} (hc : c = false) (h : RG l enc G F' r) : RG l enc G (fun m k n => bif c then F m k n else F' m k n) r := h.map fun _ => Ev.no hc
theorem RG.ret {P : (q : NT) → Nat → Rs (Ret q)} {F : Nat → Nat → Nat → Option Out} {a : α} {i : Nat} (h : ∀ m k n, F m k n = some (ro (enc a) l i false)) : RG l enc G F (run P l (.ret a) i) := Ev.of h
theorem RG.bad {P : (q : NT) → Nat → Rs (Ret q)} {F : Nat → Nat → Nat → Option Out} {i : Nat} (h : BG l G F i) : RG l enc G F (run P l (.fail) i) := h
end
section
variable {l : List Tok} (hl : l.length ≤ 1000000)
theorem C_ris {i : Nat} (hi : i < l.length) (s : List UInt8) (b : Bool) : Cal 47 [P0, V.one (X.d (D.str (bx s)))] (rbs l i b) (ro (V.one (bX (!b && isT s (tk l i)))) l i b) := by
  refine call47 _ _ _ _ (Ev.of fun m k n => ?_)
  rw [e47_eq, toks_len, in_range i _ hi, cond_true, tn, toks_at l i hi]
  cases b with
  | true => rfl
  | false =>
    unfold isT
    show (bif ((tk l i).kind == 4) then some (Out.mk true (V.one (X.d (D.bool (beqL (bx (tk l i).text).data.toList (bx s).data.toList)))) D.junk [rb l i false] 0) else bif ((tk l i).kind == 2) then some (Out.mk true (V.one (X.d (D.bool (beqL (bx (tk l i).text).data.toList (bx s).data.toList)))) D.junk [rb l i false] 0) else some (Out.mk true (V.one (X.d (D.bool false))) D.junk [rb l i false] 0)) = _
    rw [bx_data, bx_data, beqL_eq]
    cases h4 : (tk l i).kind == 4
    · cases h2 : (tk l i).kind == 2
      · rfl
      · rfl
    · rfl
theorem C_bis {i : Nat} (hi : i < l.length) (s : ByteArray) : Cal 47 [P0, V.one (X.d (D.str s))] (rbs l i true) (ro (V.one (bX false)) l i true) := by
  have := C_ris hi s.data.toList true
  rw [bx_self] at this
  exact this
def hereV (κ : Int) (t : Tok) : V := V.agg [X.d (D.int IntKind.i64 κ), X.d (D.int IntKind.i64 0), X.d (D.str (ByteArray.mk #[])), X.nilL 1, X.nilL 1, X.nilL 8, X.d (D.int IntKind.i64 t.line), X.d (D.int IntKind.i64 t.col)]
theorem C_rhere {i : Nat} (hi : i < l.length) (κ : Int) (b : Bool) : Cal 70 [P0, V.one (X.d (D.int IntKind.i64 κ))] (rbs l i b) (ro (hereV κ (tk l i)) l i b) := by
  refine call70 _ _ _ _ (Ev.of fun m k n => ?_)
  rw [e70_eq, toks_len, in_range i _ hi, cond_true, tn, toks_at l i hi]
  rfl
include hl in
theorem C_rnext_yes {i : Nat} (hi : i < l.length) (h5 : (tk l i).kind ≠ 5) : Cal 67 [P0] (rbs l i false) (ro (kV (tk l i)) l (i + 1) false) := by
  refine call67 _ _ _ (Ev.of fun m k n => ?_)
  have h : ((tk l i).kind != 5) = true := by simpa using h5
  simp only [e67_eq, toks_len, in_range i _ hi, cond_true, tn, toks_at l i hi, Bool.not_false]
  show (bif (tk l i).kind != 5 then _ else _) = _
  rw [h, cond_true, q67_0_eq, wrap_up i (by omega)]
  rfl
include hl in
theorem C_rmay {i : Nat} (hi : i < l.length) (s : List UInt8) : Cal 44 [P0, V.one (X.d (D.str (bx s)))] (rbs l i false) (ro (V.one (bX (isT s (tk l i)))) l (bif isT s (tk l i) then i + 1 else i) false) := by
  refine call44 _ _ _ _ ?_
  simp only [e44_eq]
  refine v_oB_L5IB (C_ris hi s false) ?_
  cases h : isT s (tk l i) with
  | false => exact Ev.yes rfl (Ev.ret _)
  | true =>
    refine Ev.no rfl ?_
    simp only [q44_0_eq]
    exact v_a5ISIII_L5IB (C_rnext_yes hl hi (isT_kind h)) (Ev.ret _)
theorem C_bmay {i : Nat} (hi : i < l.length) (s : ByteArray) : Cal 44 [P0, V.one (X.d (D.str s))] (rbs l i true) (ro (V.one (bX false)) l i true) := by
  refine call44 _ _ _ _ ?_
  simp only [e44_eq]
  exact v_oB_L5IB (C_bis hi s) (Ev.yes rfl (Ev.ret _))
include hl in
theorem C_rtake_yes {i : Nat} (hi : i < l.length) {s : List UInt8} (h : isT s (tk l i) = true) : Cal 46 [P0, V.one (X.d (D.str (bx s)))] (rbs l i false) (ro (V.tup []) l (i + 1) false) := by
  refine call46 _ _ _ _ ?_
  simp only [e46_eq]
  refine v_oB_L5IB (C_ris hi s false) ?_
  rw [h]
  refine Ev.no rfl ?_
  simp only [q46_0_eq]
  exact v_a5ISIII_L5IB (C_rnext_yes hl hi (isT_kind h)) (Ev.ret _)
theorem C_rtake_no {i : Nat} (hi : i < l.length) {s : List UInt8} (h : isT s (tk l i) = false) : Cal 46 [P0, V.one (X.d (D.str (bx s)))] (rbs l i false) (ro (V.tup []) l i true) := by
  refine call46 _ _ _ _ ?_
  simp only [e46_eq]
  refine v_oB_L5IB (C_ris hi s false) ?_
  rw [h]
  exact Ev.yes rfl (Ev.ret _)
theorem C_btake {i : Nat} (hi : i < l.length) (s : ByteArray) : Cal 46 [P0, V.one (X.d (D.str s))] (rbs l i true) (ro (V.tup []) l i true) := by
  refine call46 _ _ _ _ ?_
  simp only [e46_eq]
  exact v_oB_L5IB (C_bis hi s) (Ev.yes rfl (Ev.ret _))
def zeroK : V := V.agg [X.d (D.int IntKind.i64 0), X.d (D.str (ByteArray.mk #[])), X.d (D.int IntKind.i64 0), X.d (D.int IntKind.i64 0), X.d (D.int IntKind.i64 0)]
include hl in
theorem C_rkind_yes {i : Nat} (hi : i < l.length) {κ : Int} (h : (tk l i).kind = κ) (h5 : κ ≠ 5) : Cal 68 [P0, V.one (X.d (D.int IntKind.i64 κ))] (rbs l i false) (ro (kV (tk l i)) l (i + 1) false) := by
  refine call68 _ _ _ _ ?_
  simp only [e68_eq, toks_len, tn, toks_at l i hi]
  refine Ev.no rfl (Ev.yes (in_range i _ hi) (Ev.yes rfl (Ev.no (by show ((tk l i).kind != κ) = false; rw [h]; simp) ?_)))
  simp only [q68_0_eq]
  exact v_a5ISIII_L5IB (C_rnext_yes hl hi (h ▸ h5)) (Ev.ret _)
theorem C_rkind_no {i : Nat} (hi : i < l.length) {κ : Int} (h : (tk l i).kind ≠ κ) : Cal 68 [P0, V.one (X.d (D.int IntKind.i64 κ))] (rbs l i false) (ro zeroK l i true) := by
  refine call68 _ _ _ _ ?_
  simp only [e68_eq, toks_len, tn, toks_at l i hi]
  exact Ev.no rfl (Ev.yes (in_range i _ hi) (Ev.yes rfl (Ev.yes (by show ((tk l i).kind != κ) = true; simpa using h) (Ev.ret _))))
theorem C_bkind {i : Nat} (κ : Int) : Cal 68 [P0, V.one (X.d (D.int IntKind.i64 κ))] (rbs l i true) (ro zeroK l i true) := by
  refine call68 _ _ _ _ ?_
  simp only [e68_eq]
  exact Ev.yes rfl (Ev.ret _)
end
section
variable {l : List Tok} {G : V → Prop} {α : Type} {enc : α → V} {f : FuncId} {args : List V} {i j j0 : Nat} {t t2 : Bool}
theorem B_n {K : Nat → Nat → Nat → List (List D) → Int → Bool → Option Out} {Q : Nat → Nat → Nat → D → List (List D) → Int → Bool → Option Out} (hc : Cal f args (rbs l i t) ⟨true, V.tup [], D.junk, [rb l j t2], 0⟩) (h : BG l G (fun m κ n₀ => K m κ n₀ (toks l) (Int.ofNat j) t2) j0) : BG l G (fun m κ n₀ => r_n_L5IB (Ak κ false f args (rbs l i t)) (K m κ n₀) (Q m κ n₀)) j0 := h.map fun _ => v_n_L5IB hc
theorem R_n {K : Nat → Nat → Nat → List (List D) → Int → Bool → Option Out} {Q : Nat → Nat → Nat → D → List (List D) → Int → Bool → Option Out} {r : Rs α} (hc : Cal f args (rbs l i t) ⟨true, V.tup [], D.junk, [rb l j t2], 0⟩) (h : RG l enc G (fun m κ n₀ => K m κ n₀ (toks l) (Int.ofNat j) t2) r) : RG l enc G (fun m κ n₀ => r_n_L5IB (Ak κ false f args (rbs l i t)) (K m κ n₀) (Q m κ n₀)) r := h.map fun _ => v_n_L5IB hc
theorem B_B {c : Bool} {K : Nat → Nat → Nat → Bool → List (List D) → Int → Bool → Option Out} {Q : Nat → Nat → Nat → D → List (List D) → Int → Bool → Option Out} (hc : Cal f args (rbs l i t) ⟨true, V.one (bX c), D.junk, [rb l j t2], 0⟩) (h : BG l G (fun m κ n₀ => K m κ n₀ c (toks l) (Int.ofNat j) t2) j0) : BG l G (fun m κ n₀ => r_oB_L5IB (Ak κ false f args (rbs l i t)) (K m κ n₀) (Q m κ n₀)) j0 := h.map fun _ => v_oB_L5IB hc
theorem R_B {c : Bool} {K : Nat → Nat → Nat → Bool → List (List D) → Int → Bool → Option Out} {Q : Nat → Nat → Nat → D → List (List D) → Int → Bool → Option Out} {r : Rs α} (hc : Cal f args (rbs l i t) ⟨true, V.one (bX c), D.junk, [rb l j t2], 0⟩) (h : RG l enc G (fun m κ n₀ => K m κ n₀ c (toks l) (Int.ofNat j) t2) r) : RG l enc G (fun m κ n₀ => r_oB_L5IB (Ak κ false f args (rbs l i t)) (K m κ n₀) (Q m κ n₀)) r := h.map fun _ => v_oB_L5IB hc
theorem B_K {k : Int} {s : ByteArray} {n : Int} {x : Int} {y : Int} {K : Nat → Nat → Nat → Int → ByteArray → Int → Int → Int → List (List D) → Int → Bool → Option Out} {Q : Nat → Nat → Nat → D → List (List D) → Int → Bool → Option Out} (hc : Cal f args (rbs l i t) ⟨true, V.agg [X.d (D.int IntKind.i64 k), X.d (D.str s), X.d (D.int IntKind.i64 n), X.d (D.int IntKind.i64 x), X.d (D.int IntKind.i64 y)], D.junk, [rb l j t2], 0⟩) (h : BG l G (fun m κ n₀ => K m κ n₀ k s n x y (toks l) (Int.ofNat j) t2) j0) : BG l G (fun m κ n₀ => r_a5ISIII_L5IB (Ak κ false f args (rbs l i t)) (K m κ n₀) (Q m κ n₀)) j0 := h.map fun _ => v_a5ISIII_L5IB hc
theorem R_K {k : Int} {s : ByteArray} {n : Int} {x : Int} {y : Int} {K : Nat → Nat → Nat → Int → ByteArray → Int → Int → Int → List (List D) → Int → Bool → Option Out} {Q : Nat → Nat → Nat → D → List (List D) → Int → Bool → Option Out} {r : Rs α} (hc : Cal f args (rbs l i t) ⟨true, V.agg [X.d (D.int IntKind.i64 k), X.d (D.str s), X.d (D.int IntKind.i64 n), X.d (D.int IntKind.i64 x), X.d (D.int IntKind.i64 y)], D.junk, [rb l j t2], 0⟩) (h : RG l enc G (fun m κ n₀ => K m κ n₀ k s n x y (toks l) (Int.ofNat j) t2) r) : RG l enc G (fun m κ n₀ => r_a5ISIII_L5IB (Ak κ false f args (rbs l i t)) (K m κ n₀) (Q m κ n₀)) r := h.map fun _ => v_a5ISIII_L5IB hc
theorem R_H {k : Int} {n : Int} {s : ByteArray} {x : Int} {y : Int} {K : Nat → Nat → Nat → Int → Int → ByteArray → Int → Int → List (List D) → Int → Bool → Option Out} {Q : Nat → Nat → Nat → D → List (List D) → Int → Bool → Option Out} {r : Rs α} (hc : Cal f args (rbs l i t) ⟨true, V.agg [X.d (D.int IntKind.i64 k), X.d (D.int IntKind.i64 n), X.d (D.str s), X.nilL 1, X.nilL 1, X.nilL 8, X.d (D.int IntKind.i64 x), X.d (D.int IntKind.i64 y)], D.junk, [rb l j t2], 0⟩) (h : RG l enc G (fun m κ n₀ => K m κ n₀ k n s x y (toks l) (Int.ofNat j) t2) r) : RG l enc G (fun m κ n₀ => r_a8IISN1N1N8II_L5IB (Ak κ false f args (rbs l i t)) (K m κ n₀) (Q m κ n₀)) r := h.map fun _ => v_a8IISN1N1N8II_L5IB hc
theorem B_E {k : Int} {n : Int} {s : ByteArray} {a : List (List D)} {b : List (List D)} {c : List (List D)} {x : Int} {y : Int} {K : Nat → Nat → Nat → Int → Int → ByteArray → List (List D) → List (List D) → List (List D) → Int → Int → List (List D) → Int → Bool → Option Out} {Q : Nat → Nat → Nat → D → List (List D) → Int → Bool → Option Out} (hc : Cal f args (rbs l i t) ⟨true, V.agg [X.d (D.int IntKind.i64 k), X.d (D.int IntKind.i64 n), X.d (D.str s), X.d (D.list 1 a), X.d (D.list 1 b), X.d (D.list 8 c), X.d (D.int IntKind.i64 x), X.d (D.int IntKind.i64 y)], D.junk, [rb l j t2], 0⟩) (h : BG l G (fun m κ n₀ => K m κ n₀ k n s a b c x y (toks l) (Int.ofNat j) t2) j0) : BG l G (fun m κ n₀ => r_a8IISL1L1L8II_L5IB (Ak κ false f args (rbs l i t)) (K m κ n₀) (Q m κ n₀)) j0 := h.map fun _ => v_a8IISL1L1L8II_L5IB hc
theorem B_W {k : Int} {n : Int} {s : ByteArray} {a : List (List D)} {b : List (List D)} {c : List (List D)} {x : Int} {y : Int} {K : Nat → Nat → Nat → Int → Int → ByteArray → List (List D) → List (List D) → List (List D) → Int → Int → List (List D) → Int → Bool → Option Out} {Q : Nat → Nat → Nat → D → List (List D) → Int → Bool → Option Out} (hc : Cal f args (rbs l i t) ⟨true, V.agg [X.d (D.int IntKind.i64 k), X.d (D.int IntKind.i64 n), X.d (D.str s), X.d (D.list 1 a), X.d (D.list 1 b), X.own 0 29 8 c, X.d (D.int IntKind.i64 x), X.d (D.int IntKind.i64 y)], D.junk, [rb l j t2], 1⟩) (h : BG l G (fun m κ n₀ => K m κ n₀ k n s a b c x y (toks l) (Int.ofNat j) t2) j0) : BG l G (fun m κ n₀ => r_a8IISL1L1O29x8II_L5IB (Ak κ false f args (rbs l i t)) (K m κ n₀) (Q m κ n₀)) j0 := h.map fun _ => v_a8IISL1L1O29x8II_L5IB hc
theorem R_W {k : Int} {n : Int} {s : ByteArray} {a : List (List D)} {b : List (List D)} {c : List (List D)} {x : Int} {y : Int} {K : Nat → Nat → Nat → Int → Int → ByteArray → List (List D) → List (List D) → List (List D) → Int → Int → List (List D) → Int → Bool → Option Out} {Q : Nat → Nat → Nat → D → List (List D) → Int → Bool → Option Out} {r : Rs α} (hc : Cal f args (rbs l i t) ⟨true, V.agg [X.d (D.int IntKind.i64 k), X.d (D.int IntKind.i64 n), X.d (D.str s), X.d (D.list 1 a), X.d (D.list 1 b), X.own 0 29 8 c, X.d (D.int IntKind.i64 x), X.d (D.int IntKind.i64 y)], D.junk, [rb l j t2], 1⟩) (h : RG l enc G (fun m κ n₀ => K m κ n₀ k n s a b c x y (toks l) (Int.ofNat j) t2) r) : RG l enc G (fun m κ n₀ => r_a8IISL1L1O29x8II_L5IB (Ak κ false f args (rbs l i t)) (K m κ n₀) (Q m κ n₀)) r := h.map fun _ => v_a8IISL1L1O29x8II_L5IB hc
theorem R_L {c : List (List D)} {K : Nat → Nat → Nat → List (List D) → List (List D) → Int → Bool → Option Out} {Q : Nat → Nat → Nat → D → List (List D) → Int → Bool → Option Out} {r : Rs α} (hc : Cal f args (rbs l i t) ⟨true, V.one (X.d (D.list 8 c)), D.junk, [rb l j t2], 0⟩) (h : RG l enc G (fun m κ n₀ => K m κ n₀ c (toks l) (Int.ofNat j) t2) r) : RG l enc G (fun m κ n₀ => r_oL8_L5IB (Ak κ false f args (rbs l i t)) (K m κ n₀) (Q m κ n₀)) r := h.map fun _ => v_oL8_L5IB hc
theorem B_O {c : List (List D)} {K : Nat → Nat → Nat → List (List D) → List (List D) → Int → Bool → Option Out} {Q : Nat → Nat → Nat → D → List (List D) → Int → Bool → Option Out} (hc : Cal f args (rbs l i t) ⟨true, V.one (X.d (D.list 1 c)), D.junk, [rb l j t2], 0⟩) (h : BG l G (fun m κ n₀ => K m κ n₀ c (toks l) (Int.ofNat j) t2) j0) : BG l G (fun m κ n₀ => r_oL1_L5IB (Ak κ false f args (rbs l i t)) (K m κ n₀) (Q m κ n₀)) j0 := h.map fun _ => v_oL1_L5IB hc
theorem B_I {n : Int} {K : Nat → Nat → Nat → Int → List (List D) → Int → Bool → Option Out} {Q : Nat → Nat → Nat → D → List (List D) → Int → Bool → Option Out} (hc : Cal f args (rbs l i t) ⟨true, V.one (X.d (D.int IntKind.i64 n)), D.junk, [rb l j t2], 0⟩) (h : BG l G (fun m κ n₀ => K m κ n₀ n (toks l) (Int.ofNat j) t2) j0) : BG l G (fun m κ n₀ => r_oI_L5IB (Ak κ false f args (rbs l i t)) (K m κ n₀) (Q m κ n₀)) j0 := h.map fun _ => v_oI_L5IB hc
theorem BB_E {K : Nat → Nat → Nat → Int → Int → ByteArray → List (List D) → List (List D) → List (List D) → Int → Int → List (List D) → Int → Bool → Option Out} {Q : Nat → Nat → Nat → D → List (List D) → Int → Bool → Option Out} (h : BG l GE (fun _ κ _ => Ak κ false f args (rbs l i t)) j) (hn : ∀ (k : Int) (n : Int) (s : ByteArray) (a : List (List D)) (b : List (List D)) (c : List (List D)) (x : Int) (y : Int), BG l G (fun m κ n₀ => K m κ n₀ k n s a b c x y (toks l) (Int.ofNat j) true) j) : BG l G (fun m κ n₀ => r_a8IISL1L1L8II_L5IB (Ak κ false f args (rbs l i t)) (K m κ n₀) (Q m κ n₀)) j := by
  obtain ⟨v, ⟨k, n, s, a, b, c, x, y, rfl⟩, h⟩ := h
  exact (hn k n s a b c x y).map fun _ => v_a8IISL1L1L8II_L5IB h
theorem RR_E {K : Nat → Nat → Nat → Int → Int → ByteArray → List (List D) → List (List D) → List (List D) → Int → Int → List (List D) → Int → Bool → Option Out} {Q : Nat → Nat → Nat → D → List (List D) → Int → Bool → Option Out} {r : Rs (E)} {g : E → Nat → Rs α} (h : RG l eV GE (fun _ κ _ => Ak κ false f args (rbs l i t)) r) (hn : ∀ j, r = .no j → ∀ (k : Int) (n : Int) (s : ByteArray) (a : List (List D)) (b : List (List D)) (c : List (List D)) (x : Int) (y : Int), BG l G (fun m κ n₀ => K m κ n₀ k n s a b c x y (toks l) (Int.ofNat j) true) j)
    (hy : ∀ a j, r = .ok a j → RG l enc G (fun m κ n₀ => K m κ n₀ a.k a.n (bx a.name) (strs a.names) (ints a.odds) (E.rows a.kids) a.line a.col (toks l) (Int.ofNat j) false) (g a j)) : RG l enc G (fun m κ n₀ => r_a8IISL1L1L8II_L5IB (Ak κ false f args (rbs l i t)) (K m κ n₀) (Q m κ n₀)) (thenR r g) := by
  cases r with
  | ok a j => exact (hy a j rfl).map fun _ => v_a8IISL1L1L8II_L5IB h
  | no j => exact BB_E h (hn j rfl)
  | out => trivial
theorem BB_O {K : Nat → Nat → Nat → List (List D) → List (List D) → Int → Bool → Option Out} {Q : Nat → Nat → Nat → D → List (List D) → Int → Bool → Option Out} (h : BG l GO (fun _ κ _ => Ak κ false f args (rbs l i t)) j) (hn : ∀ (c : List (List D)), BG l G (fun m κ n₀ => K m κ n₀ c (toks l) (Int.ofNat j) true) j) : BG l G (fun m κ n₀ => r_oL1_L5IB (Ak κ false f args (rbs l i t)) (K m κ n₀) (Q m κ n₀)) j := by
  obtain ⟨v, ⟨c, rfl⟩, h⟩ := h
  exact (hn c).map fun _ => v_oL1_L5IB h
theorem RR_O {K : Nat → Nat → Nat → List (List D) → List (List D) → Int → Bool → Option Out} {Q : Nat → Nat → Nat → D → List (List D) → Int → Bool → Option Out} {r : Rs (List Int)} {g : List Int → Nat → Rs α} (h : RG l osV GO (fun _ κ _ => Ak κ false f args (rbs l i t)) r) (hn : ∀ j, r = .no j → ∀ (c : List (List D)), BG l G (fun m κ n₀ => K m κ n₀ c (toks l) (Int.ofNat j) true) j)
    (hy : ∀ a j, r = .ok a j → RG l enc G (fun m κ n₀ => K m κ n₀ (ints a) (toks l) (Int.ofNat j) false) (g a j)) : RG l enc G (fun m κ n₀ => r_oL1_L5IB (Ak κ false f args (rbs l i t)) (K m κ n₀) (Q m κ n₀)) (thenR r g) := by
  cases r with
  | ok a j => exact (hy a j rfl).map fun _ => v_oL1_L5IB h
  | no j => exact BB_O h (hn j rfl)
  | out => trivial
theorem BB_I {K : Nat → Nat → Nat → Int → List (List D) → Int → Bool → Option Out} {Q : Nat → Nat → Nat → D → List (List D) → Int → Bool → Option Out} (h : BG l GI (fun _ κ _ => Ak κ false f args (rbs l i t)) j) (hn : ∀ (n : Int), BG l G (fun m κ n₀ => K m κ n₀ n (toks l) (Int.ofNat j) true) j) : BG l G (fun m κ n₀ => r_oI_L5IB (Ak κ false f args (rbs l i t)) (K m κ n₀) (Q m κ n₀)) j := by
  obtain ⟨v, ⟨n, rfl⟩, h⟩ := h
  exact (hn n).map fun _ => v_oI_L5IB h
theorem RR_I {K : Nat → Nat → Nat → Int → List (List D) → Int → Bool → Option Out} {Q : Nat → Nat → Nat → D → List (List D) → Int → Bool → Option Out} {r : Rs (Int)} {g : Int → Nat → Rs α} (h : RG l nV GI (fun _ κ _ => Ak κ false f args (rbs l i t)) r) (hn : ∀ j, r = .no j → ∀ (n : Int), BG l G (fun m κ n₀ => K m κ n₀ n (toks l) (Int.ofNat j) true) j)
    (hy : ∀ a j, r = .ok a j → RG l enc G (fun m κ n₀ => K m κ n₀ a (toks l) (Int.ofNat j) false) (g a j)) : RG l enc G (fun m κ n₀ => r_oI_L5IB (Ak κ false f args (rbs l i t)) (K m κ n₀) (Q m κ n₀)) (thenR r g) := by
  cases r with
  | ok a j => exact (hy a j rfl).map fun _ => v_oI_L5IB h
  | no j => exact BB_I h (hn j rfl)
  | out => trivial
theorem BB_L {K : Nat → Nat → Nat → List (List D) → List (List D) → Int → Bool → Option Out} {Q : Nat → Nat → Nat → D → List (List D) → Int → Bool → Option Out} (h : BG l GL (fun _ κ _ => Ak κ false f args (rbs l i t)) j) (hn : ∀ c, RowsE c → BG l G (fun m κ n₀ => K m κ n₀ c (toks l) (Int.ofNat j) true) j) : BG l G (fun m κ n₀ => r_oL8_L5IB (Ak κ false f args (rbs l i t)) (K m κ n₀) (Q m κ n₀)) j := by
  obtain ⟨v, ⟨c, hc, rfl⟩, h⟩ := h
  exact (hn c hc).map fun _ => v_oL8_L5IB h
end
section
variable {l : List Tok} (hl : l.length ≤ 1000000) {G : V → Prop} {α : Type} {enc : α → V} {P : (q : NT) → Nat → Rs (Ret q)}
include hl
theorem RT_may {i : Nat} (hi : i < l.length) (s : List UInt8) {K : Nat → Nat → Nat → Bool → List (List D) → Int → Bool → Option Out} {Q : Nat → Nat → Nat → D → List (List D) → Int → Bool → Option Out} {y n : Pm α}
    (hy : isT s (tk l i) = true → RG l enc G (fun m κ n₀ => K m κ n₀ true (toks l) (Int.ofNat (i + 1)) false) (run P l y (i + 1)))
    (hn : isT s (tk l i) = false → RG l enc G (fun m κ n₀ => K m κ n₀ false (toks l) (Int.ofNat i) false) (run P l n i)) :
    RG l enc G (fun m κ n₀ => r_oB_L5IB (Ak κ false 44 [P0, V.one (X.d (D.str (bx s)))] (rbs l i false)) (K m κ n₀) (Q m κ n₀)) (run P l (Pm.take s y n) i) := by
  have hc := C_rmay hl hi s
  unfold run
  cases h : isT s (tk l i) with
  | true => rw [h] at hc; exact R_B hc (hy h)
  | false => rw [h] at hc; exact R_B hc (hn h)
omit hl in
theorem RT_is {i : Nat} (hi : i < l.length) (s : List UInt8) {K : Nat → Nat → Nat → Bool → List (List D) → Int → Bool → Option Out} {Q : Nat → Nat → Nat → D → List (List D) → Int → Bool → Option Out} {y n : Pm α}
    (hy : isT s (tk l i) = true → RG l enc G (fun m κ n₀ => K m κ n₀ true (toks l) (Int.ofNat i) false) (run P l y i))
    (hn : isT s (tk l i) = false → RG l enc G (fun m κ n₀ => K m κ n₀ false (toks l) (Int.ofNat i) false) (run P l n i)) :
    RG l enc G (fun m κ n₀ => r_oB_L5IB (Ak κ false 47 [P0, V.one (X.d (D.str (bx s)))] (rbs l i false)) (K m κ n₀) (Q m κ n₀)) (run P l (.tst s y n) i) := by
  have hc := C_ris hi s false
  unfold run
  cases h : isT s (tk l i) with
  | true => rw [h] at hc; exact R_B hc (hy h)
  | false => rw [h] at hc; exact R_B hc (hn h)
theorem RT_want {i : Nat} (hi : i < l.length) (s : List UInt8) {K : Nat → Nat → Nat → List (List D) → Int → Bool → Option Out} {Q : Nat → Nat → Nat → D → List (List D) → Int → Bool → Option Out} {y : Pm α}
    (hn : BG l G (fun m κ n₀ => K m κ n₀ (toks l) (Int.ofNat i) true) i)
    (hy : isT s (tk l i) = true → RG l enc G (fun m κ n₀ => K m κ n₀ (toks l) (Int.ofNat (i + 1)) false) (run P l y (i + 1))) :
    RG l enc G (fun m κ n₀ => r_n_L5IB (Ak κ false 46 [P0, V.one (X.d (D.str (bx s)))] (rbs l i false)) (K m κ n₀) (Q m κ n₀)) (run P l (Pm.want s y) i) := by
  unfold run
  cases h : isT s (tk l i) with
  | true => exact R_n (C_rtake_yes hl hi h) (hy h)
  | false => exact B_n (C_rtake_no hi h) hn
theorem RT_kind {i : Nat} (hi : i < l.length) (κ : Int) (h5 : κ ≠ 5) {K : Nat → Nat → Nat → Int → ByteArray → Int → Int → Int → List (List D) → Int → Bool → Option Out} {Q : Nat → Nat → Nat → D → List (List D) → Int → Bool → Option Out} {f : Tok → Pm α}
    (hn : BG l G (fun m k n₀ => K m k n₀ 0 (ByteArray.mk #[]) 0 0 0 (toks l) (Int.ofNat i) true) i)
    (hy : (tk l i).kind = κ → RG l enc G (fun m k n₀ => K m k n₀ (tk l i).kind (bx (tk l i).text) (tk l i).n (tk l i).line (tk l i).col (toks l) (Int.ofNat (i + 1)) false) (run P l (f (tk l i)) (i + 1))) :
    RG l enc G (fun m k n₀ => r_a5ISIII_L5IB (Ak k false 68 [P0, V.one (X.d (D.int IntKind.i64 κ))] (rbs l i false)) (K m k n₀) (Q m k n₀)) (run P l (Pm.kind κ f) i) := by
  unfold run
  cases h : (tk l i).kind == κ with
  | true =>
    have h' : (tk l i).kind = κ := by simpa using h
    exact R_K (C_rkind_yes hl hi h' h5) (hy h')
  | false => exact B_K (C_rkind_no hi (by simpa using h)) hn
end
theorem pw_no {l : List Tok} (hl : GoodL l) {q : NT} {i j : Nat} (hi : i < l.length) (h : pw l q i = .no j) : j < l.length := by
  have := pw_fine hl q i hi
  rw [h] at this
  exact this.2
end Go.Proofs.YtbmcafehpgimfaaGreat.Ps
namespace Go.Proofs.YtbmcafehpgimfaaGreat.Ps
set_option linter.unusedVariables false
set_option linter.unusedSimpArgs false
open Go Go.RowKit Px
open Lx (Tok)
open Px.Pm

section
variable {l : List Tok}
theorem C_bexpr {j : Nat} (hi : j < l.length) : Cal 49 [P0] (rbs l j true) (ro (V.agg [X.d (D.int IntKind.i64 0), X.d (D.int IntKind.i64 0), X.d (D.str (ByteArray.mk #[])), X.d (D.list 1 []), X.d (D.list 1 []), X.d (D.list 8 []), X.d (D.int IntKind.i64 0), X.d (D.int IntKind.i64 0)]) l j true) := by
  refine call49 _ _ _ ?_
  simp only [e49_eq]
  exact Ev.yes rfl (Ev.ret _)
theorem C_btwo1 {j : Nat} (hi : j < l.length) (k n : Int) (s : ByteArray) (a : List (List D)) (x y : Int) (w : ByteArray) : Cal 71 [P0, V.agg [X.d (D.int IntKind.i64 k), X.d (D.int IntKind.i64 n), X.d (D.str s), X.d (D.list 1 a), X.nilL 1, X.nilL 8, X.d (D.int IntKind.i64 x), X.d (D.int IntKind.i64 y)], V.one (X.d (D.str w))] (rbs l j true) ⟨true, V.agg [X.d (D.int IntKind.i64 k), X.d (D.int IntKind.i64 n), X.d (D.str s), X.d (D.list 1 a), X.d (D.list 1 []), X.own 0 29 8 [[D.int IntKind.i64 0, D.int IntKind.i64 0, D.str (ByteArray.mk #[]), D.list 1 [], D.list 1 [], D.list 8 [], D.int IntKind.i64 0, D.int IntKind.i64 0], [D.int IntKind.i64 0, D.int IntKind.i64 0, D.str (ByteArray.mk #[]), D.list 1 [], D.list 1 [], D.list 8 [], D.int IntKind.i64 0, D.int IntKind.i64 0]], X.d (D.int IntKind.i64 x), X.d (D.int IntKind.i64 y)], D.junk, [rb l j true], 1⟩ := by
  refine call71_v1 _ _ _ _ _ _ _ _ _ _ ?_
  simp only [e71_v1_eq]
  exact v_a8IISL1L1L8II_L5IB (C_bexpr hi) (v_n_L5IB (C_btake hi _) (v_a8IISL1L1L8II_L5IB (C_bexpr hi) (Ev.ret _)))
theorem C_bodds {j : Nat} (hi : j < l.length) : Cal 73 [P0] (rbs l j true) (ro (V.one (X.d (D.list 1 [[D.int IntKind.i64 0], [D.int IntKind.i64 0]]))) l j true) := by
  refine call73 _ _ _ ?_
  simp only [e73_eq]
  exact v_a5ISIII_L5IB (C_bkind _) (v_n_L5IB (C_btake hi _) (v_a5ISIII_L5IB (C_bkind _) (Ev.ret _)))
theorem C_bsigned {j : Nat} (hi : j < l.length) : Cal 108 [P0] (rbs l j true) (ro (V.one (X.d (D.int IntKind.i64 0))) l j true) := by
  refine call108 _ _ _ ?_
  simp only [e108_eq]
  refine v_oB_L5IB (C_bmay hi _) (Ev.no rfl ?_)
  simp only [q108_0_eq]
  exact v_a5ISIII_L5IB (C_bkind _) (Ev.ret _)
end
section
variable {l : List Tok} {G : V → Prop} {α : Type} {enc : α → V}
theorem RC_E (gl : GoodL l) {f : FuncId} {args : List V} {i : Nat} {t : Bool} {K : Nat → Nat → Nat → Int → Int → ByteArray → List (List D) → List (List D) → List (List D) → Int → Int → List (List D) → Int → Bool → Option Out} {Q : Nat → Nat → Nat → D → List (List D) → Int → Bool → Option Out} {g : E → Pm α} (hi : i < l.length)
    (h : RG l eV GE (fun _ κ _ => Ak κ false f args (rbs l i t)) (pw l .expr i)) (hn : ∀ j, j < l.length → ∀ (k n : Int) (s : ByteArray) (a b c : List (List D)) (x y : Int), BG l G (fun m κ n₀ => K m κ n₀ k n s a b c x y (toks l) (Int.ofNat j) true) j)
    (hy : ∀ a j, i < j → j < l.length → RG l enc G (fun m κ n₀ => K m κ n₀ a.k a.n (bx a.name) (strs a.names) (ints a.odds) (E.rows a.kids) a.line a.col (toks l) (Int.ofNat j) false) (run (pw l) l (g a) j)) :
    RG l enc G (fun m κ n₀ => r_a8IISL1L1L8II_L5IB (Ak κ false f args (rbs l i t)) (K m κ n₀) (Q m κ n₀)) (run (pw l) l (.call .expr g) i) := by
  rw [run_call]
  exact RR_E h (fun j hj => hn j (pw_no gl hi hj)) fun a j hj => hy a j (pw_eat (q := .expr) trivial hj) (pw_ok gl hi hj).2
theorem call_ret {q : NT} {i : Nat} : run (pw l) l (.call q .ret) i = pw l q i := by
  rw [run_call]
  cases pw l q i <;> rfl
end
abbrev RS (l : List Tok) (f : FuncId) (q : NT) (h : Ret q = E) (i : Nat) : Prop := RG l eV GE (fun _ κ _ => Ak κ false f [P0] (rbs l i false)) (h ▸ pw l q i : Rs E)
structure AtR (l : List Tok) (i : Nat) : Prop where
  expr : RG l eV GE (fun _ κ _ => Ak κ false 49 [P0] (rbs l i false)) (pw l .expr i)
  l1 : RG l eV GE (fun _ κ _ => Ak κ false 82 [P0] (rbs l i false)) (pw l (.level 1) i)
  l3 : RG l eV GE (fun _ κ _ => Ak κ false 96 [P0] (rbs l i false)) (pw l (.level 3) i)
  l2 : RG l eV GE (fun _ κ _ => Ak κ false 89 [P0] (rbs l i false)) (pw l (.level 2) i)
  l5 : RG l eV GE (fun _ κ _ => Ak κ false 103 [P0] (rbs l i false)) (pw l (.level 5) i)
  unary : RG l eV GE (fun _ κ _ => Ak κ false 104 [P0] (rbs l i false)) (pw l .unary i)
abbrev AfterR (l : List Tok) (i : Nat) : Prop := ∀ j, i < j → j < l.length → AtR l j
section
variable {l : List Tok} (hl : Few l) (hN : Nums l)
include hl
theorem rodds_ok (i : Nat) (hi : i < l.length) : RG l osV GO (fun _ κ _ => Ak κ false 73 [P0] (rbs l i false)) (pw l .share i) := by
  have g := hl.good
  rw [pw_eq g _ i hi]
  refine RG.map (fun o h => call73 _ _ _ h) ?_
  simp only [e73_eq]
  refine RT_kind hl.len hi 3 (by decide) (by refine B_n (C_btake (by first | assumption | omega) _) ?_; refine B_K (C_bkind _) ?_; exact BG.ret (GO.is _)) fun h => ?_
  have h1 := nxk g hi h (by decide)
  refine RT_want hl.len h1 wSl (by refine B_K (C_bkind _) ?_; exact BG.ret (GO.is _)) fun h => ?_
  have h2 := nx g h1 h
  refine RT_kind hl.len h2 3 (by decide) (by exact BG.ret (GO.is _)) fun h => ?_
  exact RG.ret fun _ _ _ => rfl
include hN in
theorem rsigned_ok (i : Nat) (hi : i < l.length) : RG l nV GI (fun _ κ _ => Ak κ false 108 [P0] (rbs l i false)) (pw l .bound i) := by
  have g := hl.good
  rw [pw_eq g _ i hi]
  refine RG.map (fun o h => call108 _ _ _ h) ?_
  simp only [e108_eq]
  refine RT_may hl.len hi wMi (fun h => RG.yes rfl ?_) (fun h => RG.no rfl ?_)
  · have h1 := nx g hi h
    refine RT_kind hl.len h1 3 (by decide) (by exact BG.ret (GI.is _)) fun h => RG.ret fun _ _ _ => ?_
    have := hN (i + 1)
    rw [wrap_in _ (by omega) (by omega)]
    show some (Out.mk true (V.one (X.d (D.int IntKind.i64 (0 - (tk l (i + 1)).n)))) D.junk _ 0) = some (Out.mk true (V.one (X.d (D.int IntKind.i64 (-(tk l (i + 1)).n)))) D.junk _ 0)
    rw [Int.zero_sub]
  · simp only [q108_0_eq]
    exact RT_kind hl.len hi 3 (by decide) (by exact BG.ret (GI.is _)) fun h2 => RG.ret fun _ _ _ => rfl
theorem RT_two {G : V → Prop} {i : Nat} (hi : i < l.length) (H : ∀ j, i ≤ j → j < l.length → AtR l j) (k n : Int) (s : ByteArray) (x y : Int) (w : List UInt8) {g : E → E → Pm E} {K : Nat → Nat → Nat → Int → Int → ByteArray → List (List D) → List (List D) → List (List D) → Int → Int → List (List D) → Int → Bool → Option Out} {Q : Nat → Nat → Nat → D → List (List D) → Int → Bool → Option Out}
    (hn : ∀ j, j < l.length → ∀ r1 r2 : List D, BG l G (fun m κ n₀ => K m κ n₀ k n s [] [] [r1, r2] x y (toks l) (Int.ofNat j) true) j)
    (hy : ∀ a b j, i < j → j < l.length → RG l eV G (fun m κ n₀ => K m κ n₀ k n s [] [] (E.rows [a, b]) x y (toks l) (Int.ofNat j) false) (run (pw l) l (g a b) j)) :
    RG l eV G (fun m κ n₀ => r_a8IISL1L1O29x8II_L5IB (Ak κ false 71 [P0, V.agg [X.d (D.int IntKind.i64 k), X.d (D.int IntKind.i64 n), X.d (D.str s), X.nilL 1, X.nilL 1, X.nilL 8, X.d (D.int IntKind.i64 x), X.d (D.int IntKind.i64 y)], V.one (X.d (D.str (bx w)))] (rbs l i false)) (K m κ n₀) (Q m κ n₀)) (run (pw l) l (.call .expr fun a => want w (.call .expr fun b => g a b)) i) := by
  have gl := hl.good
  rw [run_call]
  have h1 := (H i (Nat.le_refl _) hi).expr
  cases hp : pw l .expr i with
  | out => exact absurd hp (pw_ends gl _ i hi)
  | no j =>
    rw [hp] at h1
    have hj := pw_no gl hi hp
    obtain ⟨v, ⟨k', n', s', a', b', c', x', y', rfl⟩, h1⟩ := h1
    refine B_W (call71 _ _ _ _ _ _ _ _ _ ?_) (hn j hj [D.int IntKind.i64 k', D.int IntKind.i64 n', D.str s', D.list 1 a', D.list 1 b', D.list 8 c', D.int IntKind.i64 x', D.int IntKind.i64 y'] [D.int IntKind.i64 0, D.int IntKind.i64 0, D.str (ByteArray.mk #[]), D.list 1 [], D.list 1 [], D.list 8 [], D.int IntKind.i64 0, D.int IntKind.i64 0])
    simp only [e71_eq]
    exact v_a8IISL1L1L8II_L5IB h1 (v_n_L5IB (C_btake hj _) (v_a8IISL1L1L8II_L5IB (C_bexpr hj) (Ev.ret _)))
  | ok a j =>
    rw [hp] at h1
    have hj := pw_ok gl hi hp
    have hij : i < j := pw_eat (q := .expr) trivial hp
    show RG l eV G _ (run (pw l) l (want w (.call .expr fun b => g a b)) j)
    unfold run
    cases hw : isT w (tk l j) with
    | false =>
      refine B_W (call71 _ _ _ _ _ _ _ _ _ ?_) (hn j hj.2 (E.row a) [D.int IntKind.i64 0, D.int IntKind.i64 0, D.str (ByteArray.mk #[]), D.list 1 [], D.list 1 [], D.list 8 [], D.int IntKind.i64 0, D.int IntKind.i64 0])
      simp only [e71_eq]
      rw [E.row_eq]
      exact v_a8IISL1L1L8II_L5IB h1 (v_n_L5IB (C_rtake_no hj.2 hw) (v_a8IISL1L1L8II_L5IB (C_bexpr hj.2) (Ev.ret _)))
    | true =>
      have hj1 := nx gl hj.2 hw
      show RG l eV G _ (run (pw l) l (.call .expr fun b => g a b) (j + 1))
      rw [run_call]
      have h2 := (H (j + 1) (by omega) hj1).expr
      cases hp2 : pw l .expr (j + 1) with
      | out => exact absurd hp2 (pw_ends gl _ _ hj1)
      | no j2 =>
        rw [hp2] at h2
        have hj2 := pw_no gl hj1 hp2
        obtain ⟨v, ⟨k', n', s', a', b', c', x', y', rfl⟩, h2⟩ := h2
        refine B_W (call71 _ _ _ _ _ _ _ _ _ ?_) (hn j2 hj2 (E.row a) [D.int IntKind.i64 k', D.int IntKind.i64 n', D.str s', D.list 1 a', D.list 1 b', D.list 8 c', D.int IntKind.i64 x', D.int IntKind.i64 y'])
        simp only [e71_eq]
        rw [E.row_eq]
        exact v_a8IISL1L1L8II_L5IB h1 (v_n_L5IB (C_rtake_yes hl.len hj.2 hw) (v_a8IISL1L1L8II_L5IB h2 (Ev.ret _)))
      | ok b j2 =>
        rw [hp2] at h2
        have hj2 := pw_ok gl hj1 hp2
        refine R_W (call71 _ _ _ _ _ _ _ _ _ ?_) (hy a b j2 (by omega) hj2.2)
        simp only [e71_eq, E.rows_two]
        exact v_a8IISL1L1L8II_L5IB h1 (v_n_L5IB (C_rtake_yes hl.len hj.2 hw) (v_a8IISL1L1L8II_L5IB h2 (Ev.ret _)))
theorem RT_two1 {G : V → Prop} {i : Nat} (hi : i < l.length) (H : ∀ j, i ≤ j → j < l.length → AtR l j) (k n : Int) (s : ByteArray) (A : List (List D)) (x y : Int) (w : List UInt8) {g : E → E → Pm E} {K : Nat → Nat → Nat → Int → Int → ByteArray → List (List D) → List (List D) → List (List D) → Int → Int → List (List D) → Int → Bool → Option Out} {Q : Nat → Nat → Nat → D → List (List D) → Int → Bool → Option Out}
    (hn : ∀ j, j < l.length → ∀ r1 r2 : List D, BG l G (fun m κ n₀ => K m κ n₀ k n s A [] [r1, r2] x y (toks l) (Int.ofNat j) true) j)
    (hy : ∀ a b j, i < j → j < l.length → RG l eV G (fun m κ n₀ => K m κ n₀ k n s A [] (E.rows [a, b]) x y (toks l) (Int.ofNat j) false) (run (pw l) l (g a b) j)) :
    RG l eV G (fun m κ n₀ => r_a8IISL1L1O29x8II_L5IB (Ak κ false 71 [P0, V.agg [X.d (D.int IntKind.i64 k), X.d (D.int IntKind.i64 n), X.d (D.str s), X.d (D.list 1 A), X.nilL 1, X.nilL 8, X.d (D.int IntKind.i64 x), X.d (D.int IntKind.i64 y)], V.one (X.d (D.str (bx w)))] (rbs l i false)) (K m κ n₀) (Q m κ n₀)) (run (pw l) l (.call .expr fun a => want w (.call .expr fun b => g a b)) i) := by
  have gl := hl.good
  rw [run_call]
  have h1 := (H i (Nat.le_refl _) hi).expr
  cases hp : pw l .expr i with
  | out => exact absurd hp (pw_ends gl _ i hi)
  | no j =>
    rw [hp] at h1
    have hj := pw_no gl hi hp
    obtain ⟨v, ⟨k', n', s', a', b', c', x', y', rfl⟩, h1⟩ := h1
    refine B_W (call71_v1 _ _ _ _ _ _ _ _ _ _ ?_) (hn j hj [D.int IntKind.i64 k', D.int IntKind.i64 n', D.str s', D.list 1 a', D.list 1 b', D.list 8 c', D.int IntKind.i64 x', D.int IntKind.i64 y'] [D.int IntKind.i64 0, D.int IntKind.i64 0, D.str (ByteArray.mk #[]), D.list 1 [], D.list 1 [], D.list 8 [], D.int IntKind.i64 0, D.int IntKind.i64 0])
    simp only [e71_v1_eq]
    exact v_a8IISL1L1L8II_L5IB h1 (v_n_L5IB (C_btake hj _) (v_a8IISL1L1L8II_L5IB (C_bexpr hj) (Ev.ret _)))
  | ok a j =>
    rw [hp] at h1
    have hj := pw_ok gl hi hp
    have hij : i < j := pw_eat (q := .expr) trivial hp
    show RG l eV G _ (run (pw l) l (want w (.call .expr fun b => g a b)) j)
    unfold run
    cases hw : isT w (tk l j) with
    | false =>
      refine B_W (call71_v1 _ _ _ _ _ _ _ _ _ _ ?_) (hn j hj.2 (E.row a) [D.int IntKind.i64 0, D.int IntKind.i64 0, D.str (ByteArray.mk #[]), D.list 1 [], D.list 1 [], D.list 8 [], D.int IntKind.i64 0, D.int IntKind.i64 0])
      simp only [e71_v1_eq]
      rw [E.row_eq]
      exact v_a8IISL1L1L8II_L5IB h1 (v_n_L5IB (C_rtake_no hj.2 hw) (v_a8IISL1L1L8II_L5IB (C_bexpr hj.2) (Ev.ret _)))
    | true =>
      have hj1 := nx gl hj.2 hw
      show RG l eV G _ (run (pw l) l (.call .expr fun b => g a b) (j + 1))
      rw [run_call]
      have h2 := (H (j + 1) (by omega) hj1).expr
      cases hp2 : pw l .expr (j + 1) with
      | out => exact absurd hp2 (pw_ends gl _ _ hj1)
      | no j2 =>
        rw [hp2] at h2
        have hj2 := pw_no gl hj1 hp2
        obtain ⟨v, ⟨k', n', s', a', b', c', x', y', rfl⟩, h2⟩ := h2
        refine B_W (call71_v1 _ _ _ _ _ _ _ _ _ _ ?_) (hn j2 hj2 (E.row a) [D.int IntKind.i64 k', D.int IntKind.i64 n', D.str s', D.list 1 a', D.list 1 b', D.list 8 c', D.int IntKind.i64 x', D.int IntKind.i64 y'])
        simp only [e71_v1_eq]
        rw [E.row_eq]
        exact v_a8IISL1L1L8II_L5IB h1 (v_n_L5IB (C_rtake_yes hl.len hj.2 hw) (v_a8IISL1L1L8II_L5IB h2 (Ev.ret _)))
      | ok b j2 =>
        rw [hp2] at h2
        have hj2 := pw_ok gl hj1 hp2
        refine R_W (call71_v1 _ _ _ _ _ _ _ _ _ _ ?_) (hy a b j2 (by omega) hj2.2)
        simp only [e71_v1_eq, E.rows_two]
        exact v_a8IISL1L1L8II_L5IB h1 (v_n_L5IB (C_rtake_yes hl.len hj.2 hw) (v_a8IISL1L1L8II_L5IB h2 (Ev.ret _)))
end

section
variable {l : List Tok}
theorem C_rbin (hl : l.length ≤ 1000000) {i : Nat} (hi : i < l.length) {s : List UInt8} (h : isT s (tk l i) = true) (a : E) : Cal 83 [P0, eV a] (rbs l i false)
    ⟨true, V.agg [X.d (D.int IntKind.i64 7), X.d (D.int IntKind.i64 0), X.d (D.str (bx (tk l i).text)), X.d (D.list 1 []), X.d (D.list 1 []), X.own 0 29 8 (E.rows [a]), X.d (D.int IntKind.i64 (tk l i).line), X.d (D.int IntKind.i64 (tk l i).col)], D.junk, [rb l (i + 1) false], 1⟩ := by
  refine call83 _ _ _ _ _ _ _ _ _ _ _ ?_
  simp only [e83_eq, E.rows_one]
  exact v_a8IISN1N1N8II_L5IB (C_rhere hi _ _) (v_a5ISIII_L5IB (C_rnext_yes hl hi (isT_kind h)) (Ev.ret _))
theorem room_one (a : E) : (true && true && true && Nat.ble (((E.rows [a]).length + 1) * 121) 140737488355328) = true := by rw [E.rows_len]; rfl
end
section
variable {l : List Tok} (hl : Few l)
include hl
omit hl in
theorem bad_R_or_v1 {j : Nat} (hj : j < l.length) (z3 : List (List D)) (z4 : Int) (z5 : Bool) (x3 x4 : Int) (s5 : ByteArray) (x6 x7 k₀ n₀ : Int) (s₀ : ByteArray) (a₀ b₀ c₀ : List (List D)) (x₀ y₀ : Int) : BG l GE (fun m κ n => l74_0_v1 m (Ak κ) n z3 z4 z5 (toks l) (Int.ofNat j) true x3 x4 s5 x6 x7 k₀ n₀ s₀ a₀ b₀ c₀ x₀ y₀) j := by refine BG.step ?_; simp only [l74_0_v1_eq]; refine B_B (C_bis (by first | assumption | omega) _) ?_; refine BG.no rfl ?_; simp only [q74_1_v1_eq]; exact BG.ret (GE.is _ _ _ _ _ _ _ _)
omit hl in
theorem bad_R_or {j : Nat} (hj : j < l.length) (z3 : List (List D)) (z4 : Int) (z5 : Bool) (x3 x4 : Int) (s5 : ByteArray) (x6 x7 k₀ n₀ : Int) (s₀ : ByteArray) (a₀ b₀ c₀ : List (List D)) (x₀ y₀ : Int) : BG l GE (fun m κ n => l74_0 m (Ak κ) n z3 z4 z5 (toks l) (Int.ofNat j) true x3 x4 s5 x6 x7 k₀ n₀ s₀ a₀ b₀ c₀ x₀ y₀) j := by refine BG.step ?_; simp only [l74_0_eq]; refine B_B (C_bis (by first | assumption | omega) _) ?_; refine BG.no rfl ?_; simp only [q74_1_eq]; exact BG.ret (GE.is _ _ _ _ _ _ _ _)
theorem loop_R_or_v1 : ∀ (d i : Nat), i < l.length → l.length - i ≤ d → AfterR l i → ∀ (left : E) (z3 : List (List D)) (z4 : Int) (z5 : Bool) (x3 x4 : Int) (s5 : ByteArray) (x6 x7 : Int), RG l eV GE (fun m κ n => l74_0_v1 m (Ak κ) n z3 z4 z5 (toks l) (Int.ofNat i) false x3 x4 s5 x6 x7 left.k left.n (bx left.name) (strs left.names) (ints left.odds) (E.rows left.kids) left.line left.col) (run (pw l) l (.call (.loop 0 left) .ret) i)
  | 0, i, hi, h, _ => by omega
  | d + 1, i, hi, hd, H => fun left z3 z4 z5 x3 x4 s5 x6 x7 => by
    have g := hl.good
    rw [call_ret, pw_eq g _ i hi]
    refine RG.step ?_
    simp only [l74_0_v1_eq]
    show RG l eV GE _ (run (pw l) l (.tst wOr (.look fun t => .next (.call (.level 1) fun r => .call (.loop 0 (E.mk 7 0 t.text [] [] [left, r] t.line t.col)) .ret)) (.ret left)) i)
    refine RT_is hi wOr (fun h => RG.yes rfl ?_) (fun h => RG.no rfl ?_)
    · simp only [q74_0_v1_eq]
      refine R_W (C_rbin hl.len hi h left) ?_
      show RG l eV GE _ (run (pw l) l (.call (.level 1) fun r => .call (.loop 0 (E.mk 7 0 (tk l i).text [] [] [left, r] (tk l i).line (tk l i).col)) .ret) (i + 1))
      have h1 := nx g hi h
      rw [run_call]
      refine RR_E ((H (i + 1) (by omega) h1).l1) (fun j hj _ _ _ _ _ _ _ _ => ?_) (fun a j hj => ?_)
      · exact BG.yes (room_one _) (bad_R_or_v1 (pw_no g h1 hj) _ _ _ _ _ _ _ _ _ _ _ _ _ _ _ _)
      · have hj := pw_ok g h1 hj
        refine RG.yes (room_one _) ?_
        rw [← E.rows_app]
        exact loop_R_or_v1 d j hj.2 (by omega) (fun j' h1 h2 => H j' (by omega) h2) (E.mk 7 0 (tk l i).text [] [] [left, a] (tk l i).line (tk l i).col) _ _ _ _ _ _ _ _
    simp only [q74_1_v1_eq]
    exact RG.ret fun _ _ _ => rfl
theorem loop_R_or (i : Nat) (hi : i < l.length) (H : AfterR l i) (left : E) (z3 : List (List D)) (z4 : Int) (z5 : Bool) (x3 x4 : Int) (s5 : ByteArray) (x6 x7 : Int) : RG l eV GE (fun m κ n => l74_0 m (Ak κ) n z3 z4 z5 (toks l) (Int.ofNat i) false x3 x4 s5 x6 x7 left.k left.n (bx left.name) (strs left.names) (ints left.odds) (E.rows left.kids) left.line left.col) (run (pw l) l (.call (.loop 0 left) .ret) i) := by
    have g := hl.good
    rw [call_ret, pw_eq g _ i hi]
    refine RG.step ?_
    simp only [l74_0_eq]
    show RG l eV GE _ (run (pw l) l (.tst wOr (.look fun t => .next (.call (.level 1) fun r => .call (.loop 0 (E.mk 7 0 t.text [] [] [left, r] t.line t.col)) .ret)) (.ret left)) i)
    refine RT_is hi wOr (fun h => RG.yes rfl ?_) (fun h => RG.no rfl ?_)
    · simp only [q74_0_eq]
      refine R_W (C_rbin hl.len hi h left) ?_
      show RG l eV GE _ (run (pw l) l (.call (.level 1) fun r => .call (.loop 0 (E.mk 7 0 (tk l i).text [] [] [left, r] (tk l i).line (tk l i).col)) .ret) (i + 1))
      have h1 := nx g hi h
      rw [run_call]
      refine RR_E ((H (i + 1) (by omega) h1).l1) (fun j hj _ _ _ _ _ _ _ _ => ?_) (fun a j hj => ?_)
      · exact BG.yes (room_one _) (bad_R_or_v1 (pw_no g h1 hj) _ _ _ _ _ _ _ _ _ _ _ _ _ _ _ _)
      · have hj := pw_ok g h1 hj
        refine RG.yes (room_one _) ?_
        rw [← E.rows_app]
        exact loop_R_or_v1 hl _ j hj.2 (Nat.le_refl _) (fun j' h1 h2 => H j' (by omega) h2) (E.mk 7 0 (tk l i).text [] [] [left, a] (tk l i).line (tk l i).col) _ _ _ _ _ _ _ _
    simp only [q74_1_eq]
    exact RG.ret fun _ _ _ => rfl
theorem ok_R_or (i : Nat) (hi : i < l.length) (H : AfterR l i) (h0 : RG l eV GE (fun _ κ _ => Ak κ false 82 [P0] (rbs l i false)) (pw l (.level 1) i)) : RG l eV GE (fun _ κ _ => Ak κ false 74 [P0] (rbs l i false)) (pw l (.level 0) i) := by
  have g := hl.good
  rw [pw_eq g _ i hi]
  refine RG.map (fun o h => call74 _ _ _ h) ?_
  simp only [e74_eq]
  show RG l eV GE _ (run (pw l) l (.call (.level 1) fun a => .call (.loop 0 a) .ret) i)
  rw [run_call]
  refine RR_E h0 (fun j hj _ _ _ _ _ _ _ _ => ?_) (fun a j hj => ?_)
  · exact BG.diag (bad_R_or (pw_no g hi hj) _ _ _ _ _ _ _ _ _ _ _ _ _ _ _ _)
  · have hj := pw_ok g hi hj
    exact RG.diag (loop_R_or hl j hj.2 (fun j' h1 h2 => H j' (by omega) h2) a _ _ _ _ _ _ _ _)
omit hl in
theorem bad_R_and_v1 {j : Nat} (hj : j < l.length) (z3 : List (List D)) (z4 : Int) (z5 : Bool) (x3 x4 : Int) (s5 : ByteArray) (x6 x7 k₀ n₀ : Int) (s₀ : ByteArray) (a₀ b₀ c₀ : List (List D)) (x₀ y₀ : Int) : BG l GE (fun m κ n => l82_0_v1 m (Ak κ) n z3 z4 z5 (toks l) (Int.ofNat j) true x3 x4 s5 x6 x7 k₀ n₀ s₀ a₀ b₀ c₀ x₀ y₀) j := by refine BG.step ?_; simp only [l82_0_v1_eq]; refine B_B (C_bis (by first | assumption | omega) _) ?_; refine BG.no rfl ?_; simp only [q82_1_v1_eq]; exact BG.ret (GE.is _ _ _ _ _ _ _ _)
omit hl in
theorem bad_R_and {j : Nat} (hj : j < l.length) (z3 : List (List D)) (z4 : Int) (z5 : Bool) (x3 x4 : Int) (s5 : ByteArray) (x6 x7 k₀ n₀ : Int) (s₀ : ByteArray) (a₀ b₀ c₀ : List (List D)) (x₀ y₀ : Int) : BG l GE (fun m κ n => l82_0 m (Ak κ) n z3 z4 z5 (toks l) (Int.ofNat j) true x3 x4 s5 x6 x7 k₀ n₀ s₀ a₀ b₀ c₀ x₀ y₀) j := by refine BG.step ?_; simp only [l82_0_eq]; refine B_B (C_bis (by first | assumption | omega) _) ?_; refine BG.no rfl ?_; simp only [q82_1_eq]; exact BG.ret (GE.is _ _ _ _ _ _ _ _)
theorem loop_R_and_v1 : ∀ (d i : Nat), i < l.length → l.length - i ≤ d → AfterR l i → ∀ (left : E) (z3 : List (List D)) (z4 : Int) (z5 : Bool) (x3 x4 : Int) (s5 : ByteArray) (x6 x7 : Int), RG l eV GE (fun m κ n => l82_0_v1 m (Ak κ) n z3 z4 z5 (toks l) (Int.ofNat i) false x3 x4 s5 x6 x7 left.k left.n (bx left.name) (strs left.names) (ints left.odds) (E.rows left.kids) left.line left.col) (run (pw l) l (.call (.loop 1 left) .ret) i)
  | 0, i, hi, h, _ => by omega
  | d + 1, i, hi, hd, H => fun left z3 z4 z5 x3 x4 s5 x6 x7 => by
    have g := hl.good
    rw [call_ret, pw_eq g _ i hi]
    refine RG.step ?_
    simp only [l82_0_v1_eq]
    show RG l eV GE _ (run (pw l) l (.tst wAnd (.look fun t => .next (.call (.level 2) fun r => .call (.loop 1 (E.mk 7 0 t.text [] [] [left, r] t.line t.col)) .ret)) (.ret left)) i)
    refine RT_is hi wAnd (fun h => RG.yes rfl ?_) (fun h => RG.no rfl ?_)
    · simp only [q82_0_v1_eq]
      refine R_W (C_rbin hl.len hi h left) ?_
      show RG l eV GE _ (run (pw l) l (.call (.level 2) fun r => .call (.loop 1 (E.mk 7 0 (tk l i).text [] [] [left, r] (tk l i).line (tk l i).col)) .ret) (i + 1))
      have h1 := nx g hi h
      rw [run_call]
      refine RR_E ((H (i + 1) (by omega) h1).l2) (fun j hj _ _ _ _ _ _ _ _ => ?_) (fun a j hj => ?_)
      · exact BG.yes (room_one _) (bad_R_and_v1 (pw_no g h1 hj) _ _ _ _ _ _ _ _ _ _ _ _ _ _ _ _)
      · have hj := pw_ok g h1 hj
        refine RG.yes (room_one _) ?_
        rw [← E.rows_app]
        exact loop_R_and_v1 d j hj.2 (by omega) (fun j' h1 h2 => H j' (by omega) h2) (E.mk 7 0 (tk l i).text [] [] [left, a] (tk l i).line (tk l i).col) _ _ _ _ _ _ _ _
    simp only [q82_1_v1_eq]
    exact RG.ret fun _ _ _ => rfl
theorem loop_R_and (i : Nat) (hi : i < l.length) (H : AfterR l i) (left : E) (z3 : List (List D)) (z4 : Int) (z5 : Bool) (x3 x4 : Int) (s5 : ByteArray) (x6 x7 : Int) : RG l eV GE (fun m κ n => l82_0 m (Ak κ) n z3 z4 z5 (toks l) (Int.ofNat i) false x3 x4 s5 x6 x7 left.k left.n (bx left.name) (strs left.names) (ints left.odds) (E.rows left.kids) left.line left.col) (run (pw l) l (.call (.loop 1 left) .ret) i) := by
    have g := hl.good
    rw [call_ret, pw_eq g _ i hi]
    refine RG.step ?_
    simp only [l82_0_eq]
    show RG l eV GE _ (run (pw l) l (.tst wAnd (.look fun t => .next (.call (.level 2) fun r => .call (.loop 1 (E.mk 7 0 t.text [] [] [left, r] t.line t.col)) .ret)) (.ret left)) i)
    refine RT_is hi wAnd (fun h => RG.yes rfl ?_) (fun h => RG.no rfl ?_)
    · simp only [q82_0_eq]
      refine R_W (C_rbin hl.len hi h left) ?_
      show RG l eV GE _ (run (pw l) l (.call (.level 2) fun r => .call (.loop 1 (E.mk 7 0 (tk l i).text [] [] [left, r] (tk l i).line (tk l i).col)) .ret) (i + 1))
      have h1 := nx g hi h
      rw [run_call]
      refine RR_E ((H (i + 1) (by omega) h1).l2) (fun j hj _ _ _ _ _ _ _ _ => ?_) (fun a j hj => ?_)
      · exact BG.yes (room_one _) (bad_R_and_v1 (pw_no g h1 hj) _ _ _ _ _ _ _ _ _ _ _ _ _ _ _ _)
      · have hj := pw_ok g h1 hj
        refine RG.yes (room_one _) ?_
        rw [← E.rows_app]
        exact loop_R_and_v1 hl _ j hj.2 (Nat.le_refl _) (fun j' h1 h2 => H j' (by omega) h2) (E.mk 7 0 (tk l i).text [] [] [left, a] (tk l i).line (tk l i).col) _ _ _ _ _ _ _ _
    simp only [q82_1_eq]
    exact RG.ret fun _ _ _ => rfl
theorem ok_R_and (i : Nat) (hi : i < l.length) (H : AfterR l i) (h0 : RG l eV GE (fun _ κ _ => Ak κ false 89 [P0] (rbs l i false)) (pw l (.level 2) i)) : RG l eV GE (fun _ κ _ => Ak κ false 82 [P0] (rbs l i false)) (pw l (.level 1) i) := by
  have g := hl.good
  rw [pw_eq g _ i hi]
  refine RG.map (fun o h => call82 _ _ _ h) ?_
  simp only [e82_eq]
  show RG l eV GE _ (run (pw l) l (.call (.level 2) fun a => .call (.loop 1 a) .ret) i)
  rw [run_call]
  refine RR_E h0 (fun j hj _ _ _ _ _ _ _ _ => ?_) (fun a j hj => ?_)
  · exact BG.diag (bad_R_and (pw_no g hi hj) _ _ _ _ _ _ _ _ _ _ _ _ _ _ _ _)
  · have hj := pw_ok g hi hj
    exact RG.diag (loop_R_and hl j hj.2 (fun j' h1 h2 => H j' (by omega) h2) a _ _ _ _ _ _ _ _)
omit hl in
theorem bad_R_sum_v1 {j : Nat} (hj : j < l.length) (z3 : List (List D)) (z4 : Int) (z5 : Bool) (x3 x4 : Int) (s5 : ByteArray) (x6 x7 k₀ n₀ : Int) (s₀ : ByteArray) (a₀ b₀ c₀ : List (List D)) (x₀ y₀ : Int) : BG l GE (fun m κ n => l101_0_v1 m (Ak κ) n z3 z4 z5 (toks l) (Int.ofNat j) true x3 x4 s5 x6 x7 k₀ n₀ s₀ a₀ b₀ c₀ x₀ y₀) j := by refine BG.step ?_; simp only [l101_0_v1_eq]; refine B_B (C_bis (by first | assumption | omega) _) ?_; refine BG.no rfl ?_; refine B_B (C_bis (by first | assumption | omega) _) ?_; refine BG.no rfl ?_; simp only [q101_1_v1_eq]; exact BG.ret (GE.is _ _ _ _ _ _ _ _)
omit hl in
theorem bad_R_sum {j : Nat} (hj : j < l.length) (z3 : List (List D)) (z4 : Int) (z5 : Bool) (x3 x4 : Int) (s5 : ByteArray) (x6 x7 k₀ n₀ : Int) (s₀ : ByteArray) (a₀ b₀ c₀ : List (List D)) (x₀ y₀ : Int) : BG l GE (fun m κ n => l101_0 m (Ak κ) n z3 z4 z5 (toks l) (Int.ofNat j) true x3 x4 s5 x6 x7 k₀ n₀ s₀ a₀ b₀ c₀ x₀ y₀) j := by refine BG.step ?_; simp only [l101_0_eq]; refine B_B (C_bis (by first | assumption | omega) _) ?_; refine BG.no rfl ?_; refine B_B (C_bis (by first | assumption | omega) _) ?_; refine BG.no rfl ?_; simp only [q101_1_eq]; exact BG.ret (GE.is _ _ _ _ _ _ _ _)
theorem loop_R_sum_v1 : ∀ (d i : Nat), i < l.length → l.length - i ≤ d → AfterR l i → ∀ (left : E) (z3 : List (List D)) (z4 : Int) (z5 : Bool) (x3 x4 : Int) (s5 : ByteArray) (x6 x7 : Int), RG l eV GE (fun m κ n => l101_0_v1 m (Ak κ) n z3 z4 z5 (toks l) (Int.ofNat i) false x3 x4 s5 x6 x7 left.k left.n (bx left.name) (strs left.names) (ints left.odds) (E.rows left.kids) left.line left.col) (run (pw l) l (.call (.loop 4 left) .ret) i)
  | 0, i, hi, h, _ => by omega
  | d + 1, i, hi, hd, H => fun left z3 z4 z5 x3 x4 s5 x6 x7 => by
    have g := hl.good
    rw [call_ret, pw_eq g _ i hi]
    refine RG.step ?_
    simp only [l101_0_v1_eq]
    show RG l eV GE _ (run (pw l) l (.tst wPl (.look fun t => .next (.call (.level 5) fun r => .call (.loop 4 (E.mk 7 0 t.text [] [] [left, r] t.line t.col)) .ret)) (.tst wMi (.look fun t => .next (.call (.level 5) fun r => .call (.loop 4 (E.mk 7 0 t.text [] [] [left, r] t.line t.col)) .ret)) (.ret left))) i)
    refine RT_is hi wPl (fun h => RG.yes rfl ?_) (fun h => RG.no rfl ?_)
    · simp only [q101_0_v1_eq]
      refine R_W (C_rbin hl.len hi h left) ?_
      show RG l eV GE _ (run (pw l) l (.call (.level 5) fun r => .call (.loop 4 (E.mk 7 0 (tk l i).text [] [] [left, r] (tk l i).line (tk l i).col)) .ret) (i + 1))
      have h1 := nx g hi h
      rw [run_call]
      refine RR_E ((H (i + 1) (by omega) h1).l5) (fun j hj _ _ _ _ _ _ _ _ => ?_) (fun a j hj => ?_)
      · exact BG.yes (room_one _) (bad_R_sum_v1 (pw_no g h1 hj) _ _ _ _ _ _ _ _ _ _ _ _ _ _ _ _)
      · have hj := pw_ok g h1 hj
        refine RG.yes (room_one _) ?_
        rw [← E.rows_app]
        exact loop_R_sum_v1 d j hj.2 (by omega) (fun j' h1 h2 => H j' (by omega) h2) (E.mk 7 0 (tk l i).text [] [] [left, a] (tk l i).line (tk l i).col) _ _ _ _ _ _ _ _
    refine RT_is hi wMi (fun h => RG.yes rfl ?_) (fun h => RG.no rfl ?_)
    · simp only [q101_0_v1_eq]
      refine R_W (C_rbin hl.len hi h left) ?_
      show RG l eV GE _ (run (pw l) l (.call (.level 5) fun r => .call (.loop 4 (E.mk 7 0 (tk l i).text [] [] [left, r] (tk l i).line (tk l i).col)) .ret) (i + 1))
      have h1 := nx g hi h
      rw [run_call]
      refine RR_E ((H (i + 1) (by omega) h1).l5) (fun j hj _ _ _ _ _ _ _ _ => ?_) (fun a j hj => ?_)
      · exact BG.yes (room_one _) (bad_R_sum_v1 (pw_no g h1 hj) _ _ _ _ _ _ _ _ _ _ _ _ _ _ _ _)
      · have hj := pw_ok g h1 hj
        refine RG.yes (room_one _) ?_
        rw [← E.rows_app]
        exact loop_R_sum_v1 d j hj.2 (by omega) (fun j' h1 h2 => H j' (by omega) h2) (E.mk 7 0 (tk l i).text [] [] [left, a] (tk l i).line (tk l i).col) _ _ _ _ _ _ _ _
    simp only [q101_1_v1_eq]
    exact RG.ret fun _ _ _ => rfl
theorem loop_R_sum (i : Nat) (hi : i < l.length) (H : AfterR l i) (left : E) (z3 : List (List D)) (z4 : Int) (z5 : Bool) (x3 x4 : Int) (s5 : ByteArray) (x6 x7 : Int) : RG l eV GE (fun m κ n => l101_0 m (Ak κ) n z3 z4 z5 (toks l) (Int.ofNat i) false x3 x4 s5 x6 x7 left.k left.n (bx left.name) (strs left.names) (ints left.odds) (E.rows left.kids) left.line left.col) (run (pw l) l (.call (.loop 4 left) .ret) i) := by
    have g := hl.good
    rw [call_ret, pw_eq g _ i hi]
    refine RG.step ?_
    simp only [l101_0_eq]
    show RG l eV GE _ (run (pw l) l (.tst wPl (.look fun t => .next (.call (.level 5) fun r => .call (.loop 4 (E.mk 7 0 t.text [] [] [left, r] t.line t.col)) .ret)) (.tst wMi (.look fun t => .next (.call (.level 5) fun r => .call (.loop 4 (E.mk 7 0 t.text [] [] [left, r] t.line t.col)) .ret)) (.ret left))) i)
    refine RT_is hi wPl (fun h => RG.yes rfl ?_) (fun h => RG.no rfl ?_)
    · simp only [q101_0_eq]
      refine R_W (C_rbin hl.len hi h left) ?_
      show RG l eV GE _ (run (pw l) l (.call (.level 5) fun r => .call (.loop 4 (E.mk 7 0 (tk l i).text [] [] [left, r] (tk l i).line (tk l i).col)) .ret) (i + 1))
      have h1 := nx g hi h
      rw [run_call]
      refine RR_E ((H (i + 1) (by omega) h1).l5) (fun j hj _ _ _ _ _ _ _ _ => ?_) (fun a j hj => ?_)
      · exact BG.yes (room_one _) (bad_R_sum_v1 (pw_no g h1 hj) _ _ _ _ _ _ _ _ _ _ _ _ _ _ _ _)
      · have hj := pw_ok g h1 hj
        refine RG.yes (room_one _) ?_
        rw [← E.rows_app]
        exact loop_R_sum_v1 hl _ j hj.2 (Nat.le_refl _) (fun j' h1 h2 => H j' (by omega) h2) (E.mk 7 0 (tk l i).text [] [] [left, a] (tk l i).line (tk l i).col) _ _ _ _ _ _ _ _
    refine RT_is hi wMi (fun h => RG.yes rfl ?_) (fun h => RG.no rfl ?_)
    · simp only [q101_0_eq]
      refine R_W (C_rbin hl.len hi h left) ?_
      show RG l eV GE _ (run (pw l) l (.call (.level 5) fun r => .call (.loop 4 (E.mk 7 0 (tk l i).text [] [] [left, r] (tk l i).line (tk l i).col)) .ret) (i + 1))
      have h1 := nx g hi h
      rw [run_call]
      refine RR_E ((H (i + 1) (by omega) h1).l5) (fun j hj _ _ _ _ _ _ _ _ => ?_) (fun a j hj => ?_)
      · exact BG.yes (room_one _) (bad_R_sum_v1 (pw_no g h1 hj) _ _ _ _ _ _ _ _ _ _ _ _ _ _ _ _)
      · have hj := pw_ok g h1 hj
        refine RG.yes (room_one _) ?_
        rw [← E.rows_app]
        exact loop_R_sum_v1 hl _ j hj.2 (Nat.le_refl _) (fun j' h1 h2 => H j' (by omega) h2) (E.mk 7 0 (tk l i).text [] [] [left, a] (tk l i).line (tk l i).col) _ _ _ _ _ _ _ _
    simp only [q101_1_eq]
    exact RG.ret fun _ _ _ => rfl
theorem ok_R_sum (i : Nat) (hi : i < l.length) (H : AfterR l i) (h0 : RG l eV GE (fun _ κ _ => Ak κ false 103 [P0] (rbs l i false)) (pw l (.level 5) i)) : RG l eV GE (fun _ κ _ => Ak κ false 101 [P0] (rbs l i false)) (pw l (.level 4) i) := by
  have g := hl.good
  rw [pw_eq g _ i hi]
  refine RG.map (fun o h => call101 _ _ _ h) ?_
  simp only [e101_eq]
  show RG l eV GE _ (run (pw l) l (.call (.level 5) fun a => .call (.loop 4 a) .ret) i)
  rw [run_call]
  refine RR_E h0 (fun j hj _ _ _ _ _ _ _ _ => ?_) (fun a j hj => ?_)
  · exact BG.diag (bad_R_sum (pw_no g hi hj) _ _ _ _ _ _ _ _ _ _ _ _ _ _ _ _)
  · have hj := pw_ok g hi hj
    exact RG.diag (loop_R_sum hl j hj.2 (fun j' h1 h2 => H j' (by omega) h2) a _ _ _ _ _ _ _ _)
omit hl in
theorem level6 (g : GoodL l) (i : Nat) (hi : i < l.length) : pw l (.level 6) i = pw l .unary i := by
  rw [pw_eq g _ i hi]
  exact call_ret
omit hl in
theorem bad_R_product_v1 {j : Nat} (hj : j < l.length) (z3 : List (List D)) (z4 : Int) (z5 : Bool) (x3 x4 : Int) (s5 : ByteArray) (x6 x7 k₀ n₀ : Int) (s₀ : ByteArray) (a₀ b₀ c₀ : List (List D)) (x₀ y₀ : Int) : BG l GE (fun m κ n => l103_0_v1 m (Ak κ) n z3 z4 z5 (toks l) (Int.ofNat j) true x3 x4 s5 x6 x7 k₀ n₀ s₀ a₀ b₀ c₀ x₀ y₀) j := by refine BG.step ?_; simp only [l103_0_v1_eq]; refine B_B (C_bis (by first | assumption | omega) _) ?_; refine BG.no rfl ?_; refine B_B (C_bis (by first | assumption | omega) _) ?_; refine BG.no rfl ?_; refine B_B (C_bis (by first | assumption | omega) _) ?_; refine BG.no rfl ?_; simp only [q103_1_v1_eq]; exact BG.ret (GE.is _ _ _ _ _ _ _ _)
omit hl in
theorem bad_R_product {j : Nat} (hj : j < l.length) (z3 : List (List D)) (z4 : Int) (z5 : Bool) (x3 x4 : Int) (s5 : ByteArray) (x6 x7 k₀ n₀ : Int) (s₀ : ByteArray) (a₀ b₀ c₀ : List (List D)) (x₀ y₀ : Int) : BG l GE (fun m κ n => l103_0 m (Ak κ) n z3 z4 z5 (toks l) (Int.ofNat j) true x3 x4 s5 x6 x7 k₀ n₀ s₀ a₀ b₀ c₀ x₀ y₀) j := by refine BG.step ?_; simp only [l103_0_eq]; refine B_B (C_bis (by first | assumption | omega) _) ?_; refine BG.no rfl ?_; refine B_B (C_bis (by first | assumption | omega) _) ?_; refine BG.no rfl ?_; refine B_B (C_bis (by first | assumption | omega) _) ?_; refine BG.no rfl ?_; simp only [q103_1_eq]; exact BG.ret (GE.is _ _ _ _ _ _ _ _)
theorem loop_R_product_v1 : ∀ (d i : Nat), i < l.length → l.length - i ≤ d → AfterR l i → ∀ (left : E) (z3 : List (List D)) (z4 : Int) (z5 : Bool) (x3 x4 : Int) (s5 : ByteArray) (x6 x7 : Int), RG l eV GE (fun m κ n => l103_0_v1 m (Ak κ) n z3 z4 z5 (toks l) (Int.ofNat i) false x3 x4 s5 x6 x7 left.k left.n (bx left.name) (strs left.names) (ints left.odds) (E.rows left.kids) left.line left.col) (run (pw l) l (.call (.loop 5 left) .ret) i)
  | 0, i, hi, h, _ => by omega
  | d + 1, i, hi, hd, H => fun left z3 z4 z5 x3 x4 s5 x6 x7 => by
    have g := hl.good
    rw [call_ret, pw_eq g _ i hi]
    refine RG.step ?_
    simp only [l103_0_v1_eq]
    show RG l eV GE _ (run (pw l) l (.tst wTi (.look fun t => .next (.call (.level 6) fun r => .call (.loop 5 (E.mk 7 0 t.text [] [] [left, r] t.line t.col)) .ret)) (.tst wSl (.look fun t => .next (.call (.level 6) fun r => .call (.loop 5 (E.mk 7 0 t.text [] [] [left, r] t.line t.col)) .ret)) (.tst wPc (.look fun t => .next (.call (.level 6) fun r => .call (.loop 5 (E.mk 7 0 t.text [] [] [left, r] t.line t.col)) .ret)) (.ret left)))) i)
    refine RT_is hi wTi (fun h => RG.yes rfl ?_) (fun h => RG.no rfl ?_)
    · simp only [q103_0_v1_eq]
      refine R_W (C_rbin hl.len hi h left) ?_
      show RG l eV GE _ (run (pw l) l (.call (.level 6) fun r => .call (.loop 5 (E.mk 7 0 (tk l i).text [] [] [left, r] (tk l i).line (tk l i).col)) .ret) (i + 1))
      have h1 := nx g hi h
      rw [run_call]
      refine RR_E ((by rw [level6 g _ h1]; exact (H (i + 1) (by omega) h1).unary)) (fun j hj _ _ _ _ _ _ _ _ => ?_) (fun a j hj => ?_)
      · exact BG.yes (room_one _) (bad_R_product_v1 (pw_no g h1 hj) _ _ _ _ _ _ _ _ _ _ _ _ _ _ _ _)
      · have hj := pw_ok g h1 hj
        refine RG.yes (room_one _) ?_
        rw [← E.rows_app]
        exact loop_R_product_v1 d j hj.2 (by omega) (fun j' h1 h2 => H j' (by omega) h2) (E.mk 7 0 (tk l i).text [] [] [left, a] (tk l i).line (tk l i).col) _ _ _ _ _ _ _ _
    refine RT_is hi wSl (fun h => RG.yes rfl ?_) (fun h => RG.no rfl ?_)
    · simp only [q103_0_v1_eq]
      refine R_W (C_rbin hl.len hi h left) ?_
      show RG l eV GE _ (run (pw l) l (.call (.level 6) fun r => .call (.loop 5 (E.mk 7 0 (tk l i).text [] [] [left, r] (tk l i).line (tk l i).col)) .ret) (i + 1))
      have h1 := nx g hi h
      rw [run_call]
      refine RR_E ((by rw [level6 g _ h1]; exact (H (i + 1) (by omega) h1).unary)) (fun j hj _ _ _ _ _ _ _ _ => ?_) (fun a j hj => ?_)
      · exact BG.yes (room_one _) (bad_R_product_v1 (pw_no g h1 hj) _ _ _ _ _ _ _ _ _ _ _ _ _ _ _ _)
      · have hj := pw_ok g h1 hj
        refine RG.yes (room_one _) ?_
        rw [← E.rows_app]
        exact loop_R_product_v1 d j hj.2 (by omega) (fun j' h1 h2 => H j' (by omega) h2) (E.mk 7 0 (tk l i).text [] [] [left, a] (tk l i).line (tk l i).col) _ _ _ _ _ _ _ _
    refine RT_is hi wPc (fun h => RG.yes rfl ?_) (fun h => RG.no rfl ?_)
    · simp only [q103_0_v1_eq]
      refine R_W (C_rbin hl.len hi h left) ?_
      show RG l eV GE _ (run (pw l) l (.call (.level 6) fun r => .call (.loop 5 (E.mk 7 0 (tk l i).text [] [] [left, r] (tk l i).line (tk l i).col)) .ret) (i + 1))
      have h1 := nx g hi h
      rw [run_call]
      refine RR_E ((by rw [level6 g _ h1]; exact (H (i + 1) (by omega) h1).unary)) (fun j hj _ _ _ _ _ _ _ _ => ?_) (fun a j hj => ?_)
      · exact BG.yes (room_one _) (bad_R_product_v1 (pw_no g h1 hj) _ _ _ _ _ _ _ _ _ _ _ _ _ _ _ _)
      · have hj := pw_ok g h1 hj
        refine RG.yes (room_one _) ?_
        rw [← E.rows_app]
        exact loop_R_product_v1 d j hj.2 (by omega) (fun j' h1 h2 => H j' (by omega) h2) (E.mk 7 0 (tk l i).text [] [] [left, a] (tk l i).line (tk l i).col) _ _ _ _ _ _ _ _
    simp only [q103_1_v1_eq]
    exact RG.ret fun _ _ _ => rfl
theorem loop_R_product (i : Nat) (hi : i < l.length) (H : AfterR l i) (left : E) (z3 : List (List D)) (z4 : Int) (z5 : Bool) (x3 x4 : Int) (s5 : ByteArray) (x6 x7 : Int) : RG l eV GE (fun m κ n => l103_0 m (Ak κ) n z3 z4 z5 (toks l) (Int.ofNat i) false x3 x4 s5 x6 x7 left.k left.n (bx left.name) (strs left.names) (ints left.odds) (E.rows left.kids) left.line left.col) (run (pw l) l (.call (.loop 5 left) .ret) i) := by
    have g := hl.good
    rw [call_ret, pw_eq g _ i hi]
    refine RG.step ?_
    simp only [l103_0_eq]
    show RG l eV GE _ (run (pw l) l (.tst wTi (.look fun t => .next (.call (.level 6) fun r => .call (.loop 5 (E.mk 7 0 t.text [] [] [left, r] t.line t.col)) .ret)) (.tst wSl (.look fun t => .next (.call (.level 6) fun r => .call (.loop 5 (E.mk 7 0 t.text [] [] [left, r] t.line t.col)) .ret)) (.tst wPc (.look fun t => .next (.call (.level 6) fun r => .call (.loop 5 (E.mk 7 0 t.text [] [] [left, r] t.line t.col)) .ret)) (.ret left)))) i)
    refine RT_is hi wTi (fun h => RG.yes rfl ?_) (fun h => RG.no rfl ?_)
    · simp only [q103_0_eq]
      refine R_W (C_rbin hl.len hi h left) ?_
      show RG l eV GE _ (run (pw l) l (.call (.level 6) fun r => .call (.loop 5 (E.mk 7 0 (tk l i).text [] [] [left, r] (tk l i).line (tk l i).col)) .ret) (i + 1))
      have h1 := nx g hi h
      rw [run_call]
      refine RR_E ((by rw [level6 g _ h1]; exact (H (i + 1) (by omega) h1).unary)) (fun j hj _ _ _ _ _ _ _ _ => ?_) (fun a j hj => ?_)
      · exact BG.yes (room_one _) (bad_R_product_v1 (pw_no g h1 hj) _ _ _ _ _ _ _ _ _ _ _ _ _ _ _ _)
      · have hj := pw_ok g h1 hj
        refine RG.yes (room_one _) ?_
        rw [← E.rows_app]
        exact loop_R_product_v1 hl _ j hj.2 (Nat.le_refl _) (fun j' h1 h2 => H j' (by omega) h2) (E.mk 7 0 (tk l i).text [] [] [left, a] (tk l i).line (tk l i).col) _ _ _ _ _ _ _ _
    refine RT_is hi wSl (fun h => RG.yes rfl ?_) (fun h => RG.no rfl ?_)
    · simp only [q103_0_eq]
      refine R_W (C_rbin hl.len hi h left) ?_
      show RG l eV GE _ (run (pw l) l (.call (.level 6) fun r => .call (.loop 5 (E.mk 7 0 (tk l i).text [] [] [left, r] (tk l i).line (tk l i).col)) .ret) (i + 1))
      have h1 := nx g hi h
      rw [run_call]
      refine RR_E ((by rw [level6 g _ h1]; exact (H (i + 1) (by omega) h1).unary)) (fun j hj _ _ _ _ _ _ _ _ => ?_) (fun a j hj => ?_)
      · exact BG.yes (room_one _) (bad_R_product_v1 (pw_no g h1 hj) _ _ _ _ _ _ _ _ _ _ _ _ _ _ _ _)
      · have hj := pw_ok g h1 hj
        refine RG.yes (room_one _) ?_
        rw [← E.rows_app]
        exact loop_R_product_v1 hl _ j hj.2 (Nat.le_refl _) (fun j' h1 h2 => H j' (by omega) h2) (E.mk 7 0 (tk l i).text [] [] [left, a] (tk l i).line (tk l i).col) _ _ _ _ _ _ _ _
    refine RT_is hi wPc (fun h => RG.yes rfl ?_) (fun h => RG.no rfl ?_)
    · simp only [q103_0_eq]
      refine R_W (C_rbin hl.len hi h left) ?_
      show RG l eV GE _ (run (pw l) l (.call (.level 6) fun r => .call (.loop 5 (E.mk 7 0 (tk l i).text [] [] [left, r] (tk l i).line (tk l i).col)) .ret) (i + 1))
      have h1 := nx g hi h
      rw [run_call]
      refine RR_E ((by rw [level6 g _ h1]; exact (H (i + 1) (by omega) h1).unary)) (fun j hj _ _ _ _ _ _ _ _ => ?_) (fun a j hj => ?_)
      · exact BG.yes (room_one _) (bad_R_product_v1 (pw_no g h1 hj) _ _ _ _ _ _ _ _ _ _ _ _ _ _ _ _)
      · have hj := pw_ok g h1 hj
        refine RG.yes (room_one _) ?_
        rw [← E.rows_app]
        exact loop_R_product_v1 hl _ j hj.2 (Nat.le_refl _) (fun j' h1 h2 => H j' (by omega) h2) (E.mk 7 0 (tk l i).text [] [] [left, a] (tk l i).line (tk l i).col) _ _ _ _ _ _ _ _
    simp only [q103_1_eq]
    exact RG.ret fun _ _ _ => rfl
theorem ok_R_product (i : Nat) (hi : i < l.length) (H : AfterR l i) (h0 : RG l eV GE (fun _ κ _ => Ak κ false 104 [P0] (rbs l i false)) (pw l (.level 6) i)) : RG l eV GE (fun _ κ _ => Ak κ false 103 [P0] (rbs l i false)) (pw l (.level 5) i) := by
  have g := hl.good
  rw [pw_eq g _ i hi]
  refine RG.map (fun o h => call103 _ _ _ h) ?_
  simp only [e103_eq]
  show RG l eV GE _ (run (pw l) l (.call (.level 6) fun a => .call (.loop 5 a) .ret) i)
  rw [run_call]
  refine RR_E h0 (fun j hj _ _ _ _ _ _ _ _ => ?_) (fun a j hj => ?_)
  · exact BG.diag (bad_R_product (pw_no g hi hj) _ _ _ _ _ _ _ _ _ _ _ _ _ _ _ _)
  · have hj := pw_ok g hi hj
    exact RG.diag (loop_R_product hl j hj.2 (fun j' h1 h2 => H j' (by omega) h2) a _ _ _ _ _ _ _ _)
theorem ok_rel (i : Nat) (hi : i < l.length) (H : AfterR l i) (h0 : RG l eV GE (fun _ κ _ => Ak κ false 96 [P0] (rbs l i false)) (pw l (.level 3) i)) : RG l eV GE (fun _ κ _ => Ak κ false 89 [P0] (rbs l i false)) (pw l (.level 2) i) := by
  have g := hl.good
  rw [pw_eq g _ i hi]
  refine RG.map (fun o h => call89 _ _ _ h) ?_
  simp only [e89_eq]
  show RG l eV GE _ (run (pw l) l (.call (.level 3) fun a => .call (.loop 2 a) .ret) i)
  rw [run_call]
  refine RR_E h0 (fun j hj _ _ _ _ _ _ _ _ => ?_) (fun a j hj => ?_)
  · have hj' := pw_no g hi hj
    exact by refine B_B (C_bis (by first | assumption | omega) _) ?_; refine BG.no rfl ?_; refine B_B (C_bis (by first | assumption | omega) _) ?_; refine BG.no rfl ?_; refine B_B (C_bis (by first | assumption | omega) _) ?_; refine BG.no rfl ?_; simp only [q89_0_v1_eq]; exact BG.ret (GE.is _ _ _ _ _ _ _ _)
  · have hj := pw_ok g hi hj
    rw [call_ret, pw_eq g _ j hj.2]
    show RG l eV GE _ (run (pw l) l (.tst wEqEq (.look fun t => .next (.call (.level 3) fun r => .ret (E.mk 7 0 t.text [] [] [a, r] t.line t.col))) (.tst wLt (.look fun t => .next (.call (.level 3) fun r => .ret (E.mk 7 0 t.text [] [] [a, r] t.line t.col))) (.tst wLe (.look fun t => .next (.call (.level 3) fun r => .ret (E.mk 7 0 t.text [] [] [a, r] t.line t.col))) (.ret a)))) j)
    refine RT_is hj.2 wEqEq (fun h => RG.yes rfl ?_) (fun h => RG.no rfl ?_)
    · refine R_W (C_rbin hl.len hj.2 h a) ?_
      show RG l eV GE _ (run (pw l) l (.call (.level 3) fun r => .ret (E.mk 7 0 (tk l j).text [] [] [a, r] (tk l j).line (tk l j).col)) (j + 1))
      have h1 := nx g hj.2 h
      rw [run_call]
      refine RR_E (H (j + 1) (by omega) h1).l3 (fun j2 hj2 _ _ _ _ _ _ _ _ => ?_) (fun b j2 hj2 => ?_)
      · exact BG.yes (room_one _) (by simp only [q89_0_eq]; exact BG.ret (GE.is _ _ _ _ _ _ _ _))
      · refine RG.yes (room_one _) ?_
        simp only [q89_0_eq, ← E.rows_app]
        exact RG.ret (P := pw l) fun _ _ _ => rfl
    refine RT_is hj.2 wLt (fun h => RG.yes rfl ?_) (fun h => RG.no rfl ?_)
    · refine R_W (C_rbin hl.len hj.2 h a) ?_
      show RG l eV GE _ (run (pw l) l (.call (.level 3) fun r => .ret (E.mk 7 0 (tk l j).text [] [] [a, r] (tk l j).line (tk l j).col)) (j + 1))
      have h1 := nx g hj.2 h
      rw [run_call]
      refine RR_E (H (j + 1) (by omega) h1).l3 (fun j2 hj2 _ _ _ _ _ _ _ _ => ?_) (fun b j2 hj2 => ?_)
      · exact BG.yes (room_one _) (by simp only [q89_0_eq]; exact BG.ret (GE.is _ _ _ _ _ _ _ _))
      · refine RG.yes (room_one _) ?_
        simp only [q89_0_eq, ← E.rows_app]
        exact RG.ret (P := pw l) fun _ _ _ => rfl
    refine RT_is hj.2 wLe (fun h => RG.yes rfl ?_) (fun h => RG.no rfl ?_)
    · refine R_W (C_rbin hl.len hj.2 h a) ?_
      show RG l eV GE _ (run (pw l) l (.call (.level 3) fun r => .ret (E.mk 7 0 (tk l j).text [] [] [a, r] (tk l j).line (tk l j).col)) (j + 1))
      have h1 := nx g hj.2 h
      rw [run_call]
      refine RR_E (H (j + 1) (by omega) h1).l3 (fun j2 hj2 _ _ _ _ _ _ _ _ => ?_) (fun b j2 hj2 => ?_)
      · exact BG.yes (room_one _) (by simp only [q89_0_eq]; exact BG.ret (GE.is _ _ _ _ _ _ _ _))
      · refine RG.yes (room_one _) ?_
        simp only [q89_0_eq, ← E.rows_app]
        exact RG.ret (P := pw l) fun _ _ _ => rfl
    simp only [q89_0_v1_eq]
    exact RG.ret fun _ _ _ => rfl
theorem ok_cons (i : Nat) (hi : i < l.length) (H : AfterR l i) (h0 : RG l eV GE (fun _ κ _ => Ak κ false 101 [P0] (rbs l i false)) (pw l (.level 4) i)) : RG l eV GE (fun _ κ _ => Ak κ false 96 [P0] (rbs l i false)) (pw l (.level 3) i) := by
  have g := hl.good
  rw [pw_eq g _ i hi]
  refine RG.map (fun o h => call96 _ _ _ h) ?_
  simp only [e96_eq]
  show RG l eV GE _ (run (pw l) l (.call (.level 4) fun a => .call (.loop 3 a) .ret) i)
  rw [run_call]
  refine RR_E h0 (fun j hj _ _ _ _ _ _ _ _ => ?_) (fun a j hj => ?_)
  · have hj' := pw_no g hi hj
    exact by refine B_B (C_bis (by first | assumption | omega) _) ?_; refine BG.no rfl ?_; simp only [q96_0_v1_eq]; exact BG.ret (GE.is _ _ _ _ _ _ _ _)
  · have hj := pw_ok g hi hj
    rw [call_ret, pw_eq g _ j hj.2]
    show RG l eV GE _ (run (pw l) l (.tst wCc (.look fun t => .next (.call (.level 3) fun r => .ret (E.mk 7 0 t.text [] [] [a, r] t.line t.col))) (.ret a)) j)
    refine RT_is hj.2 wCc (fun h => RG.yes rfl ?_) (fun h => RG.no rfl ?_)
    · refine R_W (C_rbin hl.len hj.2 h a) ?_
      show RG l eV GE _ (run (pw l) l (.call (.level 3) fun r => .ret (E.mk 7 0 (tk l j).text [] [] [a, r] (tk l j).line (tk l j).col)) (j + 1))
      have h1 := nx g hj.2 h
      rw [run_call]
      refine RR_E (H (j + 1) (by omega) h1).l3 (fun j2 hj2 _ _ _ _ _ _ _ _ => ?_) (fun b j2 hj2 => ?_)
      · exact BG.yes (room_one _) (by simp only [q96_0_eq]; exact BG.ret (GE.is _ _ _ _ _ _ _ _))
      · refine RG.yes (room_one _) ?_
        simp only [q96_0_eq, ← E.rows_app]
        exact RG.ret (P := pw l) fun _ _ _ => rfl
    simp only [q96_0_v1_eq]
    exact RG.ret fun _ _ _ => rfl
theorem ok_unary (i : Nat) (hi : i < l.length) (H : AfterR l i) (h0 : RG l eV GE (fun _ κ _ => Ak κ false 105 [P0] (rbs l i false)) (pw l .atom i)) : RG l eV GE (fun _ κ _ => Ak κ false 104 [P0] (rbs l i false)) (pw l .unary i) := by
  have g := hl.good
  rw [pw_eq g _ i hi]
  refine RG.map (fun o h => call104 _ _ _ h) ?_
  simp only [e104_eq]
  show RG l eV GE _ (run (pw l) l (.tst wNot (.next (.call .unary fun x => .ret (E.mk 7 0 wNot [] [] [x] (tk l i).line (tk l i).col))) (.tst wMi (.next (.call .unary fun x => .ret (E.mk 7 0 wNeg [] [] [x] (tk l i).line (tk l i).col))) (.call .atom .ret))) i)
  refine RT_is hi wNot (fun h => RG.no rfl ?_) (fun h => RG.yes rfl ?_)
  · have h1 := nx g hi h
    have ht : (tk l i).text = wNot := by unfold isT at h; rw [Bool.and_eq_true, beq_iff_eq] at h; exact h.2
    simp only [q104_0_eq]
    refine R_H (C_rhere hi _ _) (R_K (C_rnext_yes hl.len hi (isT_kind h)) ?_)
    refine RG.no (by rw [ht]; rfl) ?_
    simp only [q104_1_eq]
    show RG l eV GE _ (run (pw l) l (.call .unary fun x => .ret (E.mk 7 0 wNot [] [] [x] (tk l i).line (tk l i).col)) (i + 1))
    rw [run_call]
    refine RR_E (H (i + 1) (by omega) h1).unary (fun j2 hj2 _ _ _ _ _ _ _ _ => by exact BG.ret (GE.is _ _ _ _ _ _ _ _)) (fun b j2 hj2 => ?_)
    rw [ht, ← E.rows_one]
    exact RG.ret (P := pw l) fun _ _ _ => rfl
  refine RT_is hi wMi (fun h => RG.no rfl ?_) (fun h => RG.yes rfl ?_)
  · have h1 := nx g hi h
    have ht : (tk l i).text = wMi := by unfold isT at h; rw [Bool.and_eq_true, beq_iff_eq] at h; exact h.2
    simp only [q104_0_eq]
    refine R_H (C_rhere hi _ _) (R_K (C_rnext_yes hl.len hi (isT_kind h)) ?_)
    refine RG.yes (by rw [ht]; rfl) ?_
    simp only [q104_1_eq]
    show RG l eV GE _ (run (pw l) l (.call .unary fun x => .ret (E.mk 7 0 wNeg [] [] [x] (tk l i).line (tk l i).col)) (i + 1))
    rw [run_call]
    refine RR_E (H (i + 1) (by omega) h1).unary (fun j2 hj2 _ _ _ _ _ _ _ _ => by exact BG.ret (GE.is _ _ _ _ _ _ _ _)) (fun b j2 hj2 => ?_)
    rw [← E.rows_one]
    exact RG.ret (P := pw l) fun _ _ _ => rfl
  rw [run_call]
  refine RR_E h0 (fun j2 hj2 _ _ _ _ _ _ _ _ => by exact BG.ret (GE.is _ _ _ _ _ _ _ _)) (fun b j2 hj2 => ?_)
  exact RG.ret (P := pw l) fun _ _ _ => rfl
end
end Go.Proofs.YtbmcafehpgimfaaGreat.Ps
namespace Go.Proofs.YtbmcafehpgimfaaGreat.Ps
set_option linter.unusedVariables false
set_option linter.unusedSimpArgs false
open Go Go.RowKit Px
open Lx (Tok)

section
variable {l : List Tok} {P : (q : NT) → Nat → Rs (Ret q)}
theorem S_knd {α : Type} {enc : α → V} (κ : Int) {i : Nat} {F G : Nat → Nat → Nat → Option Out} {y n : Pm α} (hy : (tk l i).kind = κ → Sim l enc F (run P l y i)) (hn : (tk l i).kind ≠ κ → Sim l enc G (run P l n i)) :
    Sim l enc (fun m k n' => bif (tk l i).kind == κ then F m k n' else G m k n') (run P l (.knd κ y n) i) := by
  unfold run
  cases h : (tk l i).kind == κ with
  | true => exact hy (by simpa using h)
  | false => exact hn (by simpa using h)
theorem ints_one (a : Int) : ints [a] = [[D.int IntKind.i64 a]] := rfl
theorem ints_app (a : List Int) (b : Int) : ints (a ++ [b]) = ints a ++ [[D.int IntKind.i64 b]] := by unfold ints; rw [List.map_append]; rfl
theorem ints_len (a : List Int) : (ints a).length = a.length := List.length_map ..
theorem tuple_ok (hl : Few l) (t : Tok) (z' : List (List D)) (z3 x2 x3 : Int) (s4 : ByteArray) (x5 x6 : Int) : ∀ (d i : Nat), i < l.length → l.length - i ≤ d → After l i → ∀ acc : List E, acc.length ≤ i →
    Sim l eV (fun m k n => l84_0 m (Ak k) n z' z3 (toks l) (Int.ofNat i) x2 x3 s4 x5 x6 5 0 (bx []) (E.rows acc) t.line t.col) (run (pw l) l (.call (.rest wRp) fun r => .ret (E.mk 5 0 [] [] [] (acc ++ r) t.line t.col)) i)
  | 0, i, hi, h, _, _, _ => by omega
  | d + 1, i, hi, h, H, acc, ha => by
    have g := hl.good
    rw [run_open g _ _ i hi]
    refine Sim.step ?_
    simp only [l84_0_eq]
    refine S_take hl.len hi wCm (fun h => Sim.yes rfl ?_) (fun h => Sim.no rfl ?_)
    · have h1 := nx g hi h
      simp only [q84_2_eq]
      refine Eq.subst (motive := fun r => Sim l eV _ r) (run_call _ _ _).symm ?_
      refine S_E (H _ (by omega) h1).expr (fun _ _ _ _ _ _ => rfl) fun a j hj => ?_
      have hf := pw_ok g h1 hj
      refine Sim.yes (by rw [E.rows_len]; exact roomy _ _ (by have := hl.len; omega) (by omega)) ?_
      rw [← E.rows_app]
      have := tuple_ok hl t z' z3 x2 x3 s4 x5 x6 d j hf.2 (by omega) (fun j' h1 h2 => H j' (by omega) h2) (acc ++ [a]) (by rw [List.length_append, List.length_singleton]; omega)
      simp only [List.append_assoc, List.singleton_append] at this
      exact this
    · simp only [q84_3_eq]
      refine S_want hl.len hi wRp (fun _ _ _ _ _ _ => rfl) fun h2 => ?_
      exact S_ret (by rw [List.append_nil]) rfl rfl fun _ _ _ => rfl
theorem picks_ok (hl : Few l) (t : Tok) (z' : List (List D)) (z3 x2 x3 : Int) (s4 : ByteArray) (x5 x6 : Int) : ∀ (d i : Nat), i < l.length → l.length - i ≤ d → After l i → ∀ (os : List Int) (acc : List E), acc.length ≤ i → os.length ≤ i →
    Sim l eV (fun m k n => l84_1_v1 m (Ak k) n z' z3 (toks l) (Int.ofNat i) x2 x3 s4 x5 x6 13 0 (bx []) (ints os) (E.rows acc) t.line t.col) (run (pw l) l (.call .pick fun p => .ret (E.mk 13 0 [] [] (os ++ p.1) (acc ++ p.2) t.line t.col)) i)
  | 0, i, hi, h, _, _, _, _, _ => by omega
  | d + 1, i, hi, h, H, os, acc, ha, ho => by
    have g := hl.good
    rw [run_open g _ _ i hi]
    refine Sim.step ?_
    simp only [l84_1_v1_eq]
    refine S_kind hl.len hi 3 (fun _ _ _ _ _ _ => rfl) fun h1 => ?_
    have h2 := nxk g hi h1 (by decide)
    refine Sim.yes (by rw [ints_len]; exact roomy _ _ (by have := hl.len; omega) (by omega)) ?_
    refine S_want hl.len h2 wCl (fun _ _ _ _ _ _ => rfl) fun h3 => ?_
    have h4 := nx g h2 h3
    refine Eq.subst (motive := fun r => Sim l eV _ r) (run_call _ _ _).symm ?_
    refine S_E (H _ (by omega) h4).expr (fun _ _ _ _ _ _ => rfl) fun a j hj => ?_
    have hf := pw_ok g h4 hj
    refine Sim.yes (by rw [E.rows_len]; exact roomy _ _ (by have := hl.len; omega) (by omega)) ?_
    refine S_take hl.len hf.2 wCm (fun h => Sim.no rfl ?_) (fun h => Sim.yes rfl ?_)
    · have h5 := nx g hf.2 h
      rw [← E.rows_app, ← ints_app]
      have := picks_ok hl t z' z3 x2 x3 s4 x5 x6 d (j + 1) h5 (by omega) (fun j' h1 h2 => H j' (by omega) h2) (os ++ [(tk l i).n]) (acc ++ [a]) (by rw [List.length_append, List.length_singleton]; omega) (by rw [List.length_append, List.length_singleton]; omega)
      simp only [List.append_assoc, List.singleton_append] at this
      exact this
    · refine S_want hl.len hf.2 wRc (fun _ _ _ _ _ _ => rfl) fun h2 => ?_
      exact S_ret (E.rows_app acc a).symm rfl (ints_app os _).symm fun _ _ _ => rfl
theorem pick_ok (hl : Few l) (t : Tok) (z' : List (List D)) (z3 x2 x3 : Int) (s4 : ByteArray) (x5 x6 : Int) (i : Nat) (hi : i < l.length) (H : After l i) :
    Sim l eV (fun m k n => l84_1 m (Ak k) n z' z3 (toks l) (Int.ofNat i) x2 x3 s4 x5 x6 13 0 (bx []) t.line t.col) (run (pw l) l (.call .pick fun p => .ret (E.mk 13 0 [] [] p.1 p.2 t.line t.col)) i) := by
  have g := hl.good
  rw [run_open g _ _ i hi]
  refine Sim.step ?_
  simp only [l84_1_eq]
  refine S_kind hl.len hi 3 (fun _ _ _ _ _ _ => rfl) fun h1 => ?_
  have h2 := nxk g hi h1 (by decide)
  refine S_want hl.len h2 wCl (fun _ _ _ _ _ _ => rfl) fun h3 => ?_
  have h4 := nx g h2 h3
  refine Eq.subst (motive := fun r => Sim l eV _ r) (run_call _ _ _).symm ?_
  refine S_E (H _ (by omega) h4).expr (fun _ _ _ _ _ _ => rfl) fun a j hj => ?_
  have hf := pw_ok g h4 hj
  refine S_take hl.len hf.2 wCm (fun h => Sim.no rfl ?_) (fun h => Sim.yes rfl ?_)
  · have h5 := nx g hf.2 h
    rw [← E.rows_one, ← ints_one]
    exact picks_ok hl t z' z3 x2 x3 s4 x5 x6 _ (j + 1) h5 (Nat.le_refl _) (fun j' h1 h2 => H j' (by omega) h2) [(tk l i).n] [a] (by simp only [List.length_cons, List.length_nil]; omega) (by simp only [List.length_cons, List.length_nil]; omega)
  · refine S_want hl.len hf.2 wRc (fun _ _ _ _ _ _ => rfl) fun h2 => ?_
    exact S_ret (E.rows_one a).symm rfl rfl fun _ _ _ => rfl
theorem atom_ok (hl : Few l) (hn : Nums l) (i : Nat) (hi : i < l.length) (H : After l i) :
    Sim l eV (fun _ k _ => Ak k false 84 [V.one (X.ptr 0 0)] (rds l i)) (pw l .atom i) := by
  have g := hl.good
  rw [pw_eq g _ i hi]
  refine fun hr => call84 _ _ ((?_ : Sim l eV (fun _ k n => e84 (Ak k) n (toks l) (Int.ofNat i)) (run (pw l) l (body .atom) i)) hr)
  clear hr
  simp only [e84_eq]
  refine S_token hi ?_
  refine S_knd 3 (fun h => ?_) (fun h => ?_)
  · have h1 := nxk g hi h (by decide)
    refine S_begin 1 (tk l i) ?_
    rw [up hl.len hi]
    exact S_ret (P := pw l) E.rows_nil.symm rfl rfl fun _ _ _ => rfl
  refine S_knd 1 (fun h => ?_) (fun h => ?_)
  · have h1 := nxk g hi h (by decide)
    refine S_begin 3 (tk l i) ?_
    rw [up hl.len hi]
    refine S_take hl.len h1 wLp (fun h => Sim.yes rfl ?_) (fun h => Sim.no rfl ?_)
    · have h2 := nx g h1 h
      refine Eq.subst (motive := fun r => Sim l eV _ r) (run_call _ _ _).symm ?_
      refine S_L ((H _ (by omega) h2).list wRp) (fun _ _ _ _ _ _ => rfl) fun a j hj => ?_
      simp only [q84_0_eq]
      exact S_ret (P := pw l) rfl rfl rfl fun _ _ _ => rfl
    · simp only [q84_0_v1_eq]
      exact S_ret (P := pw l) E.rows_nil.symm rfl rfl fun _ _ _ => rfl
  refine S_take hl.len hi wTrue (fun h => Sim.yes rfl ?_) (fun h => Sim.no rfl ?_)
  · refine S_begin 2 (tk l i) ?_
    exact S_ret (P := pw l) E.rows_nil.symm rfl rfl fun _ _ _ => rfl
  refine S_take hl.len hi wFalse (fun h => Sim.yes rfl ?_) (fun h => Sim.no rfl ?_)
  · refine S_begin 2 (tk l i) ?_
    exact S_ret (P := pw l) E.rows_nil.symm rfl rfl fun _ _ _ => rfl
  refine S_take hl.len hi wLp (fun h => Sim.yes rfl ?_) (fun h => Sim.no rfl ?_)
  · have h1 := nx g hi h
    refine Eq.subst (motive := fun r => Sim l eV _ r) (run_call _ _ _).symm ?_
    refine S_E (H _ (by omega) h1).expr (fun _ _ _ _ _ _ => rfl) fun a j hj => ?_
    have hf := pw_ok g h1 hj
    refine S_take hl.len hf.2 wRp (fun h => Sim.yes rfl ?_) (fun h => Sim.no rfl ?_)
    · exact Sim.ret fun _ _ _ => rfl
    simp only [q84_1_eq]
    refine S_begin 5 (tk l i) ?_
    refine S_want hl.len hf.2 wCm (fun _ _ _ _ _ _ => rfl) fun h => ?_
    have h2 := nx g hf.2 h
    refine Eq.subst (motive := fun r => Sim l eV _ r) (run_call _ _ _).symm ?_
    refine S_E (H _ (by omega) h2).expr (fun _ _ _ _ _ _ => rfl) fun b j2 hj2 => ?_
    have hf2 := pw_ok g h2 hj2
    rw [← E.rows_two]
    exact Sim.diag (tuple_ok hl (tk l i) _ _ _ _ _ _ _ _ j2 hf2.2 (Nat.le_refl _) (fun j' h1 h2 => H j' (by omega) h2) [a, b] (by simp only [List.length_cons, List.length_nil]; omega))
  refine S_take hl.len hi wLb (fun h => Sim.yes rfl ?_) (fun h => Sim.no rfl ?_)
  · have h1 := nx g hi h
    refine S_begin 6 (tk l i) ?_
    refine Eq.subst (motive := fun r => Sim l eV _ r) (run_call _ _ _).symm ?_
    refine S_L ((H _ (by omega) h1).list wRb) (fun _ _ _ _ _ _ => rfl) fun a j hj => ?_
    exact S_ret (P := pw l) rfl rfl rfl fun _ _ _ => rfl
  refine S_take hl.len hi wPick (fun h => Sim.yes rfl ?_) (fun h => Sim.no rfl ?_)
  · have h1 := nx g hi h
    refine S_begin 13 (tk l i) ?_
    refine S_want hl.len h1 wLc (fun _ _ _ _ _ _ => rfl) fun h => ?_
    have h2 := nx g h1 h
    exact Sim.diag (pick_ok hl (tk l i) _ _ _ _ _ _ _ _ h2 (fun j' h1 h2 => H j' (by omega) h2))
  refine S_take hl.len hi wFlip (fun h => Sim.yes rfl ?_) (fun h => Sim.no rfl ?_)
  · have h1 := nx g hi h
    refine S_begin 14 (tk l i) ?_
    refine S_want hl.len h1 wLp (fun _ _ _ _ _ _ => rfl) fun h => ?_
    have h2 := nx g h1 h
    refine Eq.subst (motive := fun r => Sim l eV _ r) (run_call _ _ _).symm ?_
    refine S_O (share_ok hl _ h2) (fun _ _ _ _ _ _ => rfl) fun a j hj => ?_
    have hf := pw_ok g h2 hj
    refine S_want hl.len hf.2 wRp (fun _ _ _ _ _ _ => rfl) fun h => ?_
    exact S_ret (P := pw l) E.rows_nil.symm rfl rfl fun _ _ _ => rfl
  refine S_take hl.len hi wRange (fun h => Sim.yes rfl ?_) (fun h => Sim.no rfl ?_)
  · have h1 := nx g hi h
    refine S_begin 15 (tk l i) ?_
    refine S_want hl.len h1 wLp (fun _ _ _ _ _ _ => rfl) fun h => ?_
    have h2 := nx g h1 h
    refine Eq.subst (motive := fun r => Sim l eV _ r) (run_call _ _ _).symm ?_
    refine S_I (bound_ok hl hn _ h2) (fun _ _ _ _ _ _ => rfl) fun a j hj => ?_
    have hf := pw_ok g h2 hj
    refine S_want hl.len hf.2 wCm (fun _ _ _ _ _ _ => rfl) fun h => ?_
    have h3 := nx g hf.2 h
    refine Eq.subst (motive := fun r => Sim l eV _ r) (run_call _ _ _).symm ?_
    refine S_I (bound_ok hl hn _ h3) (fun _ _ _ _ _ _ => rfl) fun b j2 hj2 => ?_
    have hf2 := pw_ok g h3 hj2
    refine S_want hl.len hf2.2 wRp (fun _ _ _ _ _ _ => rfl) fun h => ?_
    exact S_ret (P := pw l) E.rows_nil.symm rfl rfl fun _ _ _ => rfl
  simp only [q84_4_eq]
  exact S_fail hi fun _ _ _ _ _ _ => rfl
theorem all_ok (hl : Few l) (hn : Nums l) : ∀ (d i : Nat), i < l.length → l.length - i ≤ d → AllAt l i
  | 0, i, hi, h => by omega
  | d + 1, i, hi, h => by
    have H : After l i := fun j h1 h2 => all_ok hl hn d j h2 (by omega)
    have ha := atom_ok hl hn i hi H
    have hu := unary_ok hl i hi H ha
    have h6 := level6_ok hl i hi hu
    have h5 := level_ok hl 5 (by decide) i hi H h6
    have h4 := level_ok hl 4 (by decide) i hi H h5
    have h3 := level_ok hl 3 (by decide) i hi H h4
    have h2 := level_ok hl 2 (by decide) i hi H h3
    have h1 := level_ok hl 1 (by decide) i hi H h2
    have h0 := level_ok hl 0 (by decide) i hi H h1
    have he := expr_ok hl i hi H h0
    refine ⟨he, fun n hn => ?_, hu, ha, fun e => list_ok hl e i hi H he fun a j hj => pw_eat (q := .expr) trivial hj⟩
    match n, hn with
    | 0, _ => exact h0
    | 1, _ => exact h1
    | 2, _ => exact h2
    | 3, _ => exact h3
    | 4, _ => exact h4
    | 5, _ => exact h5
    | 6, _ => exact h6
theorem exprs_ok (hl : Few l) (hn : Nums l) (i : Nat) (hi : i < l.length) : Sim l eV (fun _ k _ => Ak k false 23 [V.one (X.ptr 0 0)] (rds l i)) (pw l .expr i) := (all_ok hl hn _ i hi (Nat.le_refl _)).expr
end
end Go.Proofs.YtbmcafehpgimfaaGreat.Ps
namespace Go.Proofs.YtbmcafehpgimfaaGreat.Ps
set_option linter.unusedVariables false
set_option linter.unusedSimpArgs false
open Go Go.RowKit Px
open Lx (Tok)
open Px.Pm

section
variable {l : List Tok} (hl : Few l)
include hl
omit hl in
theorem run_rest (g : GoodL l) (e : List UInt8) (Y : List E → Pm E) (i : Nat) (hi : i < l.length) : run (pw l) l (.call (.rest e) Y) i = run (pw l) l (.tst wCm (.next (.call .expr fun a => .call (.rest e) fun r => Y (a :: r))) (.tst e (.next (Y [])) .fail)) i := run_open g _ _ i hi
omit hl in
theorem bad_list {j : Nat} (hj : j < l.length) (z3 : List (List D)) (z4 : Int) (z5 : Bool) (c : List (List D)) (hc : RowsE c) : BG l GL (fun m κ n => l106_0 m (Ak κ) n z3 z4 z5 c (toks l) (Int.ofNat j) true) j := by refine BG.step ?_; simp only [l106_0_eq]; refine B_B (C_bmay (by assumption) _) ?_; refine BG.no rfl ?_; simp only [q106_1_eq]; exact BG.ret (GL.is hc)
theorem rlist_loop : ∀ (d i : Nat), i < l.length → l.length - i ≤ d → AfterR l i → ∀ (acc : List E) (z3 : List (List D)) (z4 : Int) (z5 : Bool), acc.length ≤ i →
    (∃ bs j, i ≤ j ∧ j < l.length ∧ Ev (fun m κ n => l106_0 m (Ak κ) n z3 z4 z5 (E.rows acc) (toks l) (Int.ofNat i) false) (ro (V.one (X.d (D.list 8 (E.rows (acc ++ bs))))) l j false) ∧ ∀ (e : List UInt8) (Y : List E → Pm E), run (pw l) l (.call (.rest e) Y) i = run (pw l) l (want e (Y bs)) j) ∨
    (∃ j, j < l.length ∧ BG l GL (fun m κ n => l106_0 m (Ak κ) n z3 z4 z5 (E.rows acc) (toks l) (Int.ofNat i) false) j ∧ ∀ (e : List UInt8) (Y : List E → Pm E), run (pw l) l (.call (.rest e) Y) i = .no j)
  | 0, i, hi, h, _, _, _, _, _, _ => by omega
  | d + 1, i, hi, hd, H, acc, z3, z4, z5, ha => by
    have g := hl.good
    have hm := C_rmay hl.len hi wCm
    cases hc : isT wCm (tk l i) with
    | false =>
      rw [hc] at hm
      refine .inl ⟨[], i, Nat.le_refl _, hi, ?_, fun e Y => ?_⟩
      · refine Ev.step ?_
        simp only [l106_0_eq]
        refine v_oB_L5IB hm (Ev.no rfl ?_)
        simp only [q106_1_eq]
        rw [List.append_nil]
        exact Ev.ret _
      · rw [run_rest g e Y i hi, run, hc]
        rfl
    | true =>
      rw [hc] at hm
      have h1 := nx g hi hc
      have hE := (H (i + 1) (by omega) h1).expr
      have hrun : ∀ (e : List UInt8) (Y : List E → Pm E), run (pw l) l (.call (.rest e) Y) i = thenR (pw l .expr (i + 1)) fun a j => run (pw l) l (.call (.rest e) fun r => Y (a :: r)) j := fun e Y => by
        rw [run_rest g e Y i hi, run, hc]
        exact run_call _ _ _
      cases hp : pw l .expr (i + 1) with
      | out => exact absurd hp (pw_ends g _ _ h1)
      | no j =>
        rw [hp] at hE
        have hj := pw_no g h1 hp
        refine .inr ⟨j, hj, ?_, fun e Y => by rw [hrun, hp]; rfl⟩
        refine BG.step ?_
        simp only [l106_0_eq]
        refine B_B hm (BG.yes rfl ?_)
        simp only [q106_0_eq]
        refine BB_E hE fun _ _ _ _ _ _ _ _ => ?_
        refine BG.yes (by rw [E.rows_len]; exact roomy _ _ (by have := hl.len; omega) (by omega)) ?_
        exact bad_list hj _ _ _ _ (rowsE_app (rowsE acc) _ _ _ _ _ _ _ _)
      | ok a j =>
        rw [hp] at hE
        have hj := pw_ok g h1 hp
        rcases rlist_loop d j hj.2 (by omega) (fun j' h1 h2 => H j' (by omega) h2) (acc ++ [a]) z3 z4 z5 (by have := pw_eat (q := .expr) trivial hp; rw [List.length_append, List.length_singleton]; omega) with ⟨bs, j2, h2, h3, h4, h5⟩ | ⟨j2, h3, h4, h5⟩
        · refine .inl ⟨a :: bs, j2, by omega, h3, ?_, fun e Y => by rw [hrun, hp]; exact h5 e _⟩
          refine Ev.step ?_
          simp only [l106_0_eq]
          refine v_oB_L5IB hm (Ev.yes rfl ?_)
          simp only [q106_0_eq]
          refine v_a8IISL1L1L8II_L5IB hE (Ev.yes (by rw [E.rows_len]; exact roomy _ _ (by have := hl.len; omega) (by omega)) ?_)
          rw [← E.rows_app, show acc ++ a :: bs = acc ++ [a] ++ bs by simp]
          exact h4
        · refine .inr ⟨j2, h3, ?_, fun e Y => by rw [hrun, hp]; exact h5 e _⟩
          refine BG.step ?_
          simp only [l106_0_eq]
          refine B_B hm (BG.yes rfl ?_)
          simp only [q106_0_eq]
          refine h4.map fun o h => v_a8IISL1L1L8II_L5IB hE (Ev.yes (by rw [E.rows_len]; exact roomy _ _ (by have := hl.len; omega) (by omega)) ?_)
          rw [← E.rows_app]
          exact h
theorem RT_list {G : V → Prop} {i : Nat} (hi : i < l.length) (H : ∀ j, i ≤ j → j < l.length → AtR l j) (e : List UInt8) {Y : List E → Pm E} {K : Nat → Nat → Nat → List (List D) → List (List D) → Int → Bool → Option Out} {Q : Nat → Nat → Nat → D → List (List D) → Int → Bool → Option Out}
    (hn : ∀ j, j < l.length → ∀ c : List (List D), RowsE c → BG l G (fun m κ n₀ => K m κ n₀ c (toks l) (Int.ofNat j) true) j)
    (hy : ∀ a bs j, i < j → j < l.length → RG l eV G (fun m κ n₀ => K m κ n₀ (E.rows (a :: bs)) (toks l) (Int.ofNat j) false) (run (pw l) l (want e (Y (a :: bs))) j)) :
    RG l eV G (fun m κ n₀ => r_oL8_L5IB (Ak κ false 106 [P0] (rbs l i false)) (K m κ n₀) (Q m κ n₀)) (run (pw l) l (.call .expr fun a => .call (.rest e) fun r => Y (a :: r)) i) := by
  have g := hl.good
  rw [run_call]
  have hE := (H i (Nat.le_refl _) hi).expr
  cases hp : pw l .expr i with
  | out => exact absurd hp (pw_ends g _ i hi)
  | no j =>
    rw [hp] at hE
    have hj := pw_no g hi hp
    refine BB_L (BG.map (fun o h => call106 _ _ _ h) ?_) (hn j hj)
    simp only [e106_eq]
    exact BB_E hE fun _ _ _ _ _ _ _ _ => BG.diag (bad_list hj _ _ _ _ (rowsE_app (c := []) (fun r hr => by cases hr) _ _ _ _ _ _ _ _))
  | ok a j =>
    rw [hp] at hE
    have hj := pw_ok g hi hp
    have hij := pw_eat (q := .expr) trivial hp
    show RG l eV G _ (run (pw l) l (.call (.rest e) fun r => Y (a :: r)) j)
    rcases rlist_loop hl _ j hj.2 (Nat.le_refl _) (fun j' h1 h2 => H j' (by omega) h2) [a] (toks l) (Int.ofNat i) false (by rw [List.length_singleton]; omega) with ⟨bs, j2, h2, h3, h4, h5⟩ | ⟨j2, h3, h4, h5⟩
    · rw [h5]
      refine R_L (call106 _ _ _ ?_) (hy a bs j2 (by omega) h3)
      simp only [e106_eq]
      rw [E.rows_one] at h4
      exact v_a8IISL1L1L8II_L5IB hE (Ev.diag h4)
    · rw [h5]
      refine BB_L (BG.map (fun o h => call106 _ _ _ h) ?_) (hn j2 h3)
      simp only [e106_eq]
      rw [E.rows_one] at h4
      exact h4.map fun o h => v_a8IISL1L1L8II_L5IB hE (Ev.diag h)
theorem rpicks : ∀ (d i : Nat), i < l.length → l.length - i ≤ d → AfterR l i → ∀ (os : List Int) (acc : List E) (t : Tok) (z3 : List (List D)) (z4 : Int) (z5 : Bool) (x4 x5 : Int) (s6 : ByteArray) (x7 x8 : Int), acc.length ≤ i → os.length ≤ i →
    RG l eV GE (fun m κ n => l107_0_v1 m (Ak κ) n z3 z4 z5 true (toks l) (Int.ofNat i) false x4 x5 s6 x7 x8 13 0 (ByteArray.mk #[]) (ints os) (E.rows acc) t.line t.col) (run (pw l) l (.call .pick fun p => .ret (E.mk 13 0 [] [] (os ++ p.1) (acc ++ p.2) t.line t.col)) i)
  | 0, i, hi, h, _, _, _, _, _, _, _, _, _, _, _, _, _, _ => by omega
  | d + 1, i, hi, hd, H, os, acc, t, z3, z4, z5, x4, x5, s6, x7, x8, ha, ho => by
    have g := hl.good
    rw [run_open g _ _ i hi]
    refine RG.step ?_
    simp only [l107_0_v1_eq]
    refine RG.yes rfl (RG.yes rfl ?_)
    simp only [q107_0_v1_eq]
    refine RT_kind hl.len hi 3 (by decide) (by refine BG.yes (by rw [ints_len]; exact roomy _ _ (by have := hl.len; omega) (by omega)) ?_; refine B_n (C_btake (by first | assumption | omega) _) ?_; refine B_E (C_bexpr (by first | assumption | omega)) ?_; refine BG.yes (by rw [E.rows_len]; exact roomy _ _ (by have := hl.len; omega) (by omega)) ?_; simp only [q107_1_eq]; refine B_B (C_bmay (by first | assumption | omega) _) ?_; refine BG.step ?_; simp only [l107_0_v1_eq]; refine BG.no rfl ?_; simp only [q107_2_v1_eq]; refine B_n (C_btake (by first | assumption | omega) _) ?_; exact BG.ret (GE.is _ _ _ _ _ _ _ _)) fun h1 => ?_
    have h2 := nxk g hi h1 (by decide)
    refine RG.yes (by rw [ints_len]; exact roomy _ _ (by have := hl.len; omega) (by omega)) ?_
    refine RT_want hl.len h2 wCl (by refine B_E (C_bexpr (by first | assumption | omega)) ?_; refine BG.yes (by rw [E.rows_len]; exact roomy _ _ (by have := hl.len; omega) (by omega)) ?_; simp only [q107_1_eq]; refine B_B (C_bmay (by first | assumption | omega) _) ?_; refine BG.step ?_; simp only [l107_0_v1_eq]; refine BG.no rfl ?_; simp only [q107_2_v1_eq]; refine B_n (C_btake (by first | assumption | omega) _) ?_; exact BG.ret (GE.is _ _ _ _ _ _ _ _)) fun h3 => ?_
    have h4 := nx g h2 h3
    refine RC_E g h4 (H _ (by omega) h4).expr (fun j hj _ _ _ _ _ _ _ _ => by refine BG.yes (by rw [E.rows_len]; exact roomy _ _ (by have := hl.len; omega) (by omega)) ?_; simp only [q107_1_eq]; refine B_B (C_bmay (by first | assumption | omega) _) ?_; refine BG.step ?_; simp only [l107_0_v1_eq]; refine BG.no rfl ?_; simp only [q107_2_v1_eq]; refine B_n (C_btake (by first | assumption | omega) _) ?_; exact BG.ret (GE.is _ _ _ _ _ _ _ _)) fun a j hij hj => ?_
    refine RG.yes (by rw [E.rows_len]; exact roomy _ _ (by have := hl.len; omega) (by omega)) ?_
    simp only [q107_1_eq]
    rw [← E.rows_app, ← ints_app]
    refine RT_may hl.len hj wCm (fun h => ?_) (fun h => ?_)
    · have h5 := nx g hj h
      have := rpicks d (j + 1) h5 (by omega) (fun j' h1 h2 => H j' (by omega) h2) (os ++ [(tk l i).n]) (acc ++ [a]) t z3 z4 z5 x4 x5 s6 x7 x8 (by rw [List.length_append, List.length_singleton]; omega) (by rw [List.length_append, List.length_singleton]; omega)
      simp only [List.append_assoc, List.singleton_append] at this
      exact this
    · refine RG.step ?_
      simp only [l107_0_v1_eq]
      refine RG.no rfl ?_
      simp only [q107_2_v1_eq]
      refine RT_want hl.len hj wRc (by exact BG.ret (GE.is _ _ _ _ _ _ _ _)) fun h => ?_
      exact RG.ret (P := pw l) fun _ _ _ => rfl
theorem rpick (i : Nat) (hi : i < l.length) (H : AfterR l i) (t : Tok) (z3 : List (List D)) (z4 : Int) (z5 : Bool) (x4 x5 : Int) (s6 : ByteArray) (x7 x8 : Int) :
    RG l eV GE (fun m κ n => l107_0 m (Ak κ) n z3 z4 z5 true (toks l) (Int.ofNat i) false x4 x5 s6 x7 x8 13 0 (ByteArray.mk #[]) t.line t.col) (run (pw l) l (.call .pick fun p => .ret (E.mk 13 0 [] [] p.1 p.2 t.line t.col)) i) := by
  have g := hl.good
  rw [run_open g _ _ i hi]
  refine RG.step ?_
  simp only [l107_0_eq]
  refine RG.yes rfl (RG.yes rfl ?_)
  simp only [q107_0_eq]
  refine RT_kind hl.len hi 3 (by decide) (by refine B_n (C_btake (by first | assumption | omega) _) ?_; refine B_E (C_bexpr (by first | assumption | omega)) ?_; simp only [q107_1_eq]; refine B_B (C_bmay (by first | assumption | omega) _) ?_; refine BG.step ?_; simp only [l107_0_v1_eq]; refine BG.no rfl ?_; simp only [q107_2_v1_eq]; refine B_n (C_btake (by first | assumption | omega) _) ?_; exact BG.ret (GE.is _ _ _ _ _ _ _ _)) fun h1 => ?_
  have h2 := nxk g hi h1 (by decide)
  refine RT_want hl.len h2 wCl (by refine B_E (C_bexpr (by first | assumption | omega)) ?_; simp only [q107_1_eq]; refine B_B (C_bmay (by first | assumption | omega) _) ?_; refine BG.step ?_; simp only [l107_0_v1_eq]; refine BG.no rfl ?_; simp only [q107_2_v1_eq]; refine B_n (C_btake (by first | assumption | omega) _) ?_; exact BG.ret (GE.is _ _ _ _ _ _ _ _)) fun h3 => ?_
  have h4 := nx g h2 h3
  refine RC_E g h4 (H _ (by omega) h4).expr (fun j hj _ _ _ _ _ _ _ _ => by simp only [q107_1_eq]; refine B_B (C_bmay (by first | assumption | omega) _) ?_; refine BG.step ?_; simp only [l107_0_v1_eq]; refine BG.no rfl ?_; simp only [q107_2_v1_eq]; refine B_n (C_btake (by first | assumption | omega) _) ?_; exact BG.ret (GE.is _ _ _ _ _ _ _ _)) fun a j hij hj => ?_
  simp only [q107_1_eq]
  rw [← E.rows_one, ← ints_one]
  refine RT_may hl.len hj wCm (fun h => ?_) (fun h => ?_)
  · have h5 := nx g hj h
    exact rpicks hl _ (j + 1) h5 (Nat.le_refl _) (fun j' h1 h2 => H j' (by omega) h2) [(tk l i).n] [a] t z3 z4 z5 x4 x5 s6 x7 x8 (by simp only [List.length_cons, List.length_nil]; omega) (by simp only [List.length_cons, List.length_nil]; omega)
  · refine RG.step ?_
    simp only [l107_0_v1_eq]
    refine RG.no rfl ?_
    simp only [q107_2_v1_eq]
    refine RT_want hl.len hj wRc (by exact BG.ret (GE.is _ _ _ _ _ _ _ _)) fun h => ?_
    exact RG.ret (P := pw l) fun _ _ _ => rfl
def drawM (t : Tok) : Pm E :=
  Pm.take wPick (want wLc (.call .pick fun p => .ret (E.mk 13 0 [] [] p.1 p.2 t.line t.col)))
  (Pm.take wFlip (want wLp (.call .share fun o => want wRp (.ret (E.mk 14 0 [] [] o [] t.line t.col))))
  (Pm.take wRange (want wLp (.call .bound fun a => want wCm (.call .bound fun b => want wRp (.ret (E.mk 15 0 [] [] [a, b] [] t.line t.col)))))
  .fail))
variable (hN : Nums l)
include hN
theorem ok_draw (i : Nat) (hi : i < l.length) (H : AfterR l i) : RG l eV GE (fun _ κ _ => Ak κ false 107 [P0] (rbs l i false)) (run (pw l) l (drawM (tk l i)) i) := by
  have g := hl.good
  refine RG.map (fun o h => call107 _ _ _ h) ?_
  simp only [e107_eq]
  refine RT_is hi wPick (fun h => RG.yes rfl ?_) (fun h => RG.no rfl ?_)
  · have h1 := nx g hi h
    refine R_H (C_rhere hi _ _) (R_K (C_rnext_yes hl.len hi (isT_kind h)) ?_)
    show RG l eV GE _ (run (pw l) l (want wLc (.call .pick fun p => .ret (E.mk 13 0 [] [] p.1 p.2 (tk l i).line (tk l i).col))) (i + 1))
    refine RT_want hl.len h1 wLc (BG.diag (F := fun m κ n => l107_0 m (Ak κ) n (toks l) (Int.ofNat i) false true (toks l) (Int.ofNat (i + 1)) true 0 0 (ByteArray.mk #[]) 0 0 13 0 (ByteArray.mk #[]) (tk l i).line (tk l i).col) (by refine BG.step ?_; simp only [l107_0_eq]; refine BG.yes rfl ?_; refine BG.no rfl ?_; simp only [q107_2_eq]; refine B_n (C_btake (by first | assumption | omega) _) ?_; exact BG.ret (GE.is _ _ _ _ _ _ _ _))) fun h => ?_
    have h2 := nx g h1 h
    exact RG.diag (rpick hl _ h2 (fun j' h1 h2 => H j' (by omega) h2) (tk l i) _ _ _ _ _ _ _ _)
  refine RT_is hi wFlip (fun h => RG.yes rfl ?_) (fun h => RG.no rfl ?_)
  · have h1 := nx g hi h
    refine R_H (C_rhere hi _ _) (R_K (C_rnext_yes hl.len hi (isT_kind h)) ?_)
    show RG l eV GE _ (run (pw l) l (want wLp (.call .share fun o => want wRp (.ret (E.mk 14 0 [] [] o [] (tk l i).line (tk l i).col)))) (i + 1))
    refine RT_want hl.len h1 wLp (by refine B_O (C_bodds (by first | assumption | omega)) ?_; refine B_n (C_btake (by first | assumption | omega) _) ?_; exact BG.ret (GE.is _ _ _ _ _ _ _ _)) fun h => ?_
    have h2 := nx g h1 h
    rw [run_call]
    refine RR_O (rodds_ok hl _ h2) (fun j hj _ => ?_) fun a j hj => ?_
    · have hj := pw_no g h2 hj
      exact by refine B_n (C_btake (by first | assumption | omega) _) ?_; exact BG.ret (GE.is _ _ _ _ _ _ _ _)
    have hf := pw_ok g h2 hj
    refine RT_want hl.len hf.2 wRp (by exact BG.ret (GE.is _ _ _ _ _ _ _ _)) fun h => ?_
    exact RG.ret (P := pw l) fun _ _ _ => by unfold eV; simp only [E.kids, E.rows_nil]; rfl
  refine RT_is hi wRange (fun h => RG.yes rfl ?_) (fun h => RG.no rfl ?_)
  · have h1 := nx g hi h
    refine R_H (C_rhere hi _ _) (R_K (C_rnext_yes hl.len hi (isT_kind h)) ?_)
    show RG l eV GE _ (run (pw l) l (want wLp (.call .bound fun a => want wCm (.call .bound fun b => want wRp (.ret (E.mk 15 0 [] [] [a, b] [] (tk l i).line (tk l i).col))))) (i + 1))
    refine RT_want hl.len h1 wLp (by refine B_I (C_bsigned (by first | assumption | omega)) ?_; refine B_n (C_btake (by first | assumption | omega) _) ?_; refine B_I (C_bsigned (by first | assumption | omega)) ?_; refine B_n (C_btake (by first | assumption | omega) _) ?_; exact BG.ret (GE.is _ _ _ _ _ _ _ _)) fun h => ?_
    have h2 := nx g h1 h
    rw [run_call]
    refine RR_I (rsigned_ok hl hN _ h2) (fun j hj _ => ?_) fun a j hj => ?_
    · have hj := pw_no g h2 hj
      exact by refine B_n (C_btake (by first | assumption | omega) _) ?_; refine B_I (C_bsigned (by first | assumption | omega)) ?_; refine B_n (C_btake (by first | assumption | omega) _) ?_; exact BG.ret (GE.is _ _ _ _ _ _ _ _)
    have hf := pw_ok g h2 hj
    refine RT_want hl.len hf.2 wCm (by refine B_I (C_bsigned (by first | assumption | omega)) ?_; refine B_n (C_btake (by first | assumption | omega) _) ?_; exact BG.ret (GE.is _ _ _ _ _ _ _ _)) fun h => ?_
    have h3 := nx g hf.2 h
    rw [run_call]
    refine RR_I (rsigned_ok hl hN _ h3) (fun j hj _ => ?_) fun b j2 hj2 => ?_
    · have hj := pw_no g h3 hj
      exact by refine B_n (C_btake (by first | assumption | omega) _) ?_; exact BG.ret (GE.is _ _ _ _ _ _ _ _)
    have hf2 := pw_ok g h3 hj2
    refine RT_want hl.len hf2.2 wRp (by exact BG.ret (GE.is _ _ _ _ _ _ _ _)) fun h => ?_
    exact RG.ret (P := pw l) fun _ _ _ => by unfold eV; simp only [E.kids, E.rows_nil]; rfl
  simp only [q107_3_eq]
  exact RG.bad (by exact BG.ret (GE.is _ _ _ _ _ _ _ _))
omit hl hN in
theorem word_kind {s : List UInt8} {t : Tok} (h : t.kind = 1 ∨ t.kind = 3) : isT s t = false := by
  unfold isT
  rcases h with h | h <;> rw [h] <;> rfl
omit hl hN in
theorem run_paren (g : GoodL l) (a : E) (x y : Int) (i : Nat) (hi : i < l.length) : run (pw l) l (Pm.take wRp (.ret a) (want wCm (.call .expr fun b => .call (.rest wRp) fun r => .ret (E.mk 5 0 [] [] [] (a :: b :: r) x y)))) i =
    run (pw l) l (.call (.rest wRp) fun r => .ret (match r with | [] => a | b :: r => E.mk 5 0 [] [] [] (a :: b :: r) x y)) i := by
  rw [run_open g _ _ i hi]
  show run (pw l) l (.tst wRp (.next (.ret a)) (.tst wCm (.next (.call .expr fun b => .call (.rest wRp) fun r => .ret (E.mk 5 0 [] [] [] (a :: b :: r) x y))) .fail)) i = run (pw l) l (.tst wCm (.next (.call .expr fun b => .call (.rest wRp) fun r => .ret (E.mk 5 0 [] [] [] (a :: b :: r) x y))) (.tst wRp (.next (.ret a)) .fail)) i
  cases h1 : isT wRp (tk l i) with
  | true =>
    have h2 : isT wCm (tk l i) = false := isT_not h1 (by decide)
    exact (run_take_yes h1 (.ret a) _).trans ((run_take h2 _ _).trans (run_take_yes h1 (.ret a) .fail)).symm
  | false =>
    cases h2 : isT wCm (tk l i) with
    | true => exact ((run_take h1 _ _).trans (run_take_yes h2 _ .fail)).trans (run_take_yes h2 _ _).symm
    | false => exact ((run_take h1 _ _).trans (run_take h2 _ .fail)).trans ((run_take h2 _ _).trans (run_take h1 _ .fail)).symm
def parenY (x y : Int) (ks : List E) : Pm E := .ret (match ks with | [a] => a | ks => E.mk 5 0 [] [] [] ks x y)
theorem ok_atom (i : Nat) (hi : i < l.length) (H : AfterR l i) : RG l eV GE (fun _ κ _ => Ak κ false 105 [P0] (rbs l i false)) (pw l .atom i) := by
  have g := hl.good
  have hl1 := hl.len
  rw [pw_eq g _ i hi]
  refine RG.map (fun o h => call105 _ _ _ h) ?_
  simp only [e105_eq, toks_len, tn, toks_at l i hi]
  refine RG.yes (in_range i _ hi) (RG.no rfl (RG.yes rfl ?_))
  show RG l eV GE (fun m κ n => bif (tk l i).kind == 3 then _ else _) (run (pw l) l (.knd 3 (.next (.ret (E.mk 1 (tk l i).n [] [] [] [] (tk l i).line (tk l i).col))) (.knd 1 (.next (Pm.take wLp (.call (.list wRp) fun ks => .ret (E.mk 4 0 (tk l i).text [] [] ks (tk l i).line (tk l i).col)) (.ret (E.mk 3 0 (tk l i).text [] [] [] (tk l i).line (tk l i).col))))
      (Pm.take wTrue (.ret (E.mk 2 1 [] [] [] [] (tk l i).line (tk l i).col)) (Pm.take wFalse (.ret (E.mk 2 0 [] [] [] [] (tk l i).line (tk l i).col))
      (Pm.take wLp (.call .expr fun a => Pm.take wRp (.ret a) (want wCm (.call .expr fun b => .call (.rest wRp) fun r => .ret (E.mk 5 0 [] [] [] (a :: b :: r) (tk l i).line (tk l i).col))))
      (Pm.take wLb (.call (.list wRb) fun ks => .ret (E.mk 6 0 [] [] [] ks (tk l i).line (tk l i).col)) (drawM (tk l i)))))))) i)
  by_cases k3 : (tk l i).kind = 3
  · rw [run, k3]
    refine RG.yes rfl ?_
    refine R_H (C_rhere hi _ _) (R_K (C_rnext_yes hl.len hi (by omega)) ?_)
    exact RG.ret (P := pw l) fun _ _ _ => by unfold eV; simp only [E.kids, E.rows_nil]; rfl
  refine RG.no (by simpa using k3) ?_
  rw [run, show ((tk l i).kind == 3) = false by simpa using k3, cond_false]
  by_cases k1 : (tk l i).kind = 1
  · rw [run, k1]
    have hi1 := nxk g hi k1 (by decide)
    have w1 := C_ris hi wTrue false
    rw [word_kind (.inl k1)] at w1
    have w2 := C_ris hi wFalse false
    rw [word_kind (.inl k1)] at w2
    refine R_B w1 (RG.no rfl (R_B w2 (RG.no rfl (RG.yes rfl (RG.yes (by show ((tk l i).kind == 1) = true; rw [k1]; rfl) ?_)))))
    refine R_H (C_rhere hi _ _) (R_K (C_rnext_yes hl.len hi (by omega)) ?_)
    show RG l eV GE _ (run (pw l) l (Pm.take wLp (.call (.list wRp) fun ks => .ret (E.mk 4 0 (tk l i).text [] [] ks (tk l i).line (tk l i).col)) (.ret (E.mk 3 0 (tk l i).text [] [] [] (tk l i).line (tk l i).col))) (i + 1))
    refine RT_may hl.len hi1 wLp (fun h => RG.yes rfl ?_) (fun h => RG.no rfl ?_)
    · have h2 := nx g hi1 h
      rw [run_open g _ _ _ h2]
      show RG l eV GE _ (run (pw l) l (.tst wRp (.next (.ret (E.mk 4 0 (tk l i).text [] [] [] (tk l i).line (tk l i).col))) (.call .expr fun a => .call (.rest wRp) fun r => .ret (E.mk 4 0 (tk l i).text [] [] (a :: r) (tk l i).line (tk l i).col))) (i + 1 + 1))
      refine RT_is h2 wRp (fun h => RG.no rfl ?_) (fun h => RG.yes rfl ?_)
      · simp only [q105_1_v1_eq]
        refine R_n (C_rtake_yes hl.len h2 h) ?_
        simp only [q105_2_eq]
        exact RG.ret (P := pw l) fun _ _ _ => by unfold eV; simp only [E.kids, E.rows_nil]; rfl
      · refine RT_list hl h2 (fun j h3 h4 => H j (by omega) h4) wRp (Y := fun r => .ret (E.mk 4 0 (tk l i).text [] [] r (tk l i).line (tk l i).col)) (fun j hj c hc => by simp only [q105_1_eq]; refine B_n (C_btake (by first | assumption | omega) _) ?_; simp only [q105_2_v1_eq]; exact BG.ret (GE.is _ _ _ _ _ _ _ _)) fun a bs j hij hj => ?_
        simp only [q105_1_eq]
        refine RT_want hl.len hj wRp (by simp only [q105_2_v1_eq]; exact BG.ret (GE.is _ _ _ _ _ _ _ _)) fun h => ?_
        simp only [q105_2_v1_eq]
        exact RG.ret (P := pw l) fun _ _ _ => rfl
    · simp only [q105_2_eq]
      exact RG.ret (P := pw l) fun _ _ _ => by unfold eV; simp only [E.kids, E.rows_nil]; rfl
  rw [run, show ((tk l i).kind == 1) = false by simpa using k1, cond_false]
  refine RT_is hi wTrue (fun h => RG.yes rfl ?_) (fun h => RG.no rfl ?_)
  · have ht : (tk l i).text = wTrue := by unfold isT at h; rw [Bool.and_eq_true, beq_iff_eq] at h; exact h.2
    refine R_H (C_rhere hi _ _) (R_K (C_rnext_yes hl.len hi (isT_kind h)) (RG.yes (by rw [ht]; rfl) ?_))
    simp only [q105_0_eq]
    exact RG.ret (P := pw l) fun _ _ _ => by unfold eV; simp only [E.kids, E.rows_nil]; rfl
  refine RT_is hi wFalse (fun h => RG.yes rfl ?_) (fun h => RG.no rfl ?_)
  · have ht : (tk l i).text = wFalse := by unfold isT at h; rw [Bool.and_eq_true, beq_iff_eq] at h; exact h.2
    refine R_H (C_rhere hi _ _) (R_K (C_rnext_yes hl.len hi (isT_kind h)) (RG.no (by rw [ht]; rfl) ?_))
    simp only [q105_0_eq]
    exact RG.ret (P := pw l) fun _ _ _ => by unfold eV; simp only [E.kids, E.rows_nil]; rfl
  refine RG.yes rfl (RG.no (by show ((tk l i).kind == 1) = false; simpa using k1) ?_)
  refine RT_is hi wLp (fun h => RG.yes rfl ?_) (fun h => RG.no rfl ?_)
  · have h1 := nx g hi h
    refine R_H (C_rhere hi _ _) (R_K (C_rnext_yes hl.len hi (isT_kind h)) ?_)
    have e : run (pw l) l (.next (.call .expr fun a => Pm.take wRp (.ret a) (want wCm (.call .expr fun b => .call (.rest wRp) fun r => .ret (E.mk 5 0 [] [] [] (a :: b :: r) (tk l i).line (tk l i).col))))) i =
        run (pw l) l (.call .expr fun a => .call (.rest wRp) fun r => parenY (tk l i).line (tk l i).col (a :: r)) (i + 1) := by
      show run (pw l) l (.call .expr _) (i + 1) = _
      rw [run_call, run_call]
      cases hp : pw l .expr (i + 1) with
      | no j => rfl
      | out => rfl
      | ok a j =>
        show run (pw l) l (Pm.take wRp (.ret a) _) j = run (pw l) l (.call (.rest wRp) _) j
        rw [run_paren g a _ _ j (pw_ok g h1 hp).2, run_call, run_call]
        congr 1
        funext r j'
        cases r <;> rfl
    rw [e]
    refine RT_list hl h1 (fun j h3 h4 => H j (by omega) h4) wRp (Y := parenY (tk l i).line (tk l i).col) (fun j hj c hc0 => ?_) fun a bs j hij hj => ?_
    · refine B_n (C_btake hj _) ?_
      by_cases hc : c.length = 1
      · obtain ⟨r0, rfl⟩ : ∃ r0, c = [r0] := by
          match c, hc with
          | [r0], _ => exact ⟨r0, rfl⟩
        obtain ⟨k, n, s, a, b, d, x, y, rfl⟩ := hc0 r0 (by simp)
        refine BG.yes rfl (BG.yes rfl ?_)
        exact BG.ret (GE.is _ _ _ _ _ _ _ _)
      · refine BG.no (by rw [beq_eq_false_iff_ne]; intro e; exact hc (by have : ((c.length : Nat) : Int) = 1 := e; omega)) ?_
        simp only [q105_3_eq]
        exact BG.ret (GE.is _ _ _ _ _ _ _ _)
    · refine RT_want hl.len hj wRp ?_ fun h => ?_
      · cases bs with
        | nil => rw [E.rows_one]; refine BG.yes rfl (BG.yes rfl ?_); exact BG.ret (GE.is _ _ _ _ _ _ _ _)
        | cons b bs => refine BG.no (by rw [E.rows_len]; rfl) ?_; simp only [q105_3_eq]; exact BG.ret (GE.is _ _ _ _ _ _ _ _)
      · cases bs with
        | nil =>
          rw [E.rows_one]
          refine RG.yes rfl (RG.yes rfl ?_)
          exact RG.ret (P := pw l) fun _ _ _ => rfl
        | cons b bs =>
          refine RG.no (by rw [E.rows_len, beq_eq_false_iff_ne]; simp only [List.length_cons, Int.ofNat_eq_natCast]; omega) ?_
          simp only [q105_3_eq]
          exact RG.ret (P := pw l) fun _ _ _ => rfl
  refine RT_is hi wLb (fun h => RG.yes rfl ?_) (fun h => RG.no rfl ?_)
  · have h1 := nx g hi h
    refine R_H (C_rhere hi _ _) (R_K (C_rnext_yes hl.len hi (isT_kind h)) ?_)
    show RG l eV GE _ (run (pw l) l (.call (.list wRb) fun ks => .ret (E.mk 6 0 [] [] [] ks (tk l i).line (tk l i).col)) (i + 1))
    rw [run_open g _ _ _ h1]
    show RG l eV GE _ (run (pw l) l (.tst wRb (.next (.ret (E.mk 6 0 [] [] [] [] (tk l i).line (tk l i).col))) (.call .expr fun a => .call (.rest wRb) fun r => .ret (E.mk 6 0 [] [] [] (a :: r) (tk l i).line (tk l i).col))) (i + 1))
    refine RT_is h1 wRb (fun h => RG.no rfl ?_) (fun h => RG.yes rfl ?_)
    · simp only [q105_4_v1_eq]
      refine R_n (C_rtake_yes hl.len h1 h) ?_
      exact RG.ret (P := pw l) fun _ _ _ => by unfold eV; simp only [E.kids, E.rows_nil]; rfl
    · refine RT_list hl h1 (fun j h3 h4 => H j (by omega) h4) wRb (Y := fun r => .ret (E.mk 6 0 [] [] [] r (tk l i).line (tk l i).col)) (fun j hj c hc => by simp only [q105_4_eq]; refine B_n (C_btake (by first | assumption | omega) _) ?_; exact BG.ret (GE.is _ _ _ _ _ _ _ _)) fun a bs j hij hj => ?_
      simp only [q105_4_eq]
      refine RT_want hl.len hj wRb (by exact BG.ret (GE.is _ _ _ _ _ _ _ _)) fun h => ?_
      exact RG.ret (P := pw l) fun _ _ _ => rfl
  simp only [q105_5_eq]
  have hd := ok_draw hl hN i hi H
  have e : run (pw l) l (drawM (tk l i)) i = thenR (run (pw l) l (drawM (tk l i)) i) fun a j => .ok a j := by cases run (pw l) l (drawM (tk l i)) i <;> rfl
  rw [e]
  exact RR_E hd (fun j hj _ _ _ _ _ _ _ _ => by exact BG.ret (GE.is _ _ _ _ _ _ _ _)) fun a j hj => Ev.of fun _ _ _ => rfl
omit hN in
theorem ok_cases (i : Nat) (hi : i < l.length) (H : AfterR l i) (h : isT wCase (tk l i) = true) : RG l eV GE (fun _ κ _ => Ak κ false 72 [P0] (rbs l i false)) (run (pw l) l (caseK (tk l i)) (i + 1)) := by
  have g := hl.good
  refine RG.map (fun o h => call72 _ _ _ h) ?_
  simp only [e72_eq]
  refine R_H (C_rhere hi _ _) (R_K (C_rnext_yes hl.len hi (isT_kind h)) ?_)
  have h1 := nx g hi h
  refine RC_E g h1 (H _ (by omega) h1).expr (fun j hj _ _ _ _ _ _ _ _ => by refine B_n (C_btake (by first | assumption | omega) _) ?_; refine B_n (C_btake (by first | assumption | omega) _) ?_; refine B_n (C_btake (by first | assumption | omega) _) ?_; refine B_n (C_btake (by first | assumption | omega) _) ?_; refine B_E (C_bexpr (by first | assumption | omega)) ?_; refine B_n (C_btake (by first | assumption | omega) _) ?_; refine B_K (C_bkind _) ?_; refine B_n (C_btake (by first | assumption | omega) _) ?_; refine B_K (C_bkind _) ?_; refine B_n (C_btake (by first | assumption | omega) _) ?_; refine B_E (C_bexpr (by first | assumption | omega)) ?_; exact BG.ret (GE.is _ _ _ _ _ _ _ _)) fun a j hij hj => ?_
  refine RT_want hl.len hj wOf (by refine B_n (C_btake (by first | assumption | omega) _) ?_; refine B_n (C_btake (by first | assumption | omega) _) ?_; refine B_n (C_btake (by first | assumption | omega) _) ?_; refine B_E (C_bexpr (by first | assumption | omega)) ?_; refine B_n (C_btake (by first | assumption | omega) _) ?_; refine B_K (C_bkind _) ?_; refine B_n (C_btake (by first | assumption | omega) _) ?_; refine B_K (C_bkind _) ?_; refine B_n (C_btake (by first | assumption | omega) _) ?_; refine B_E (C_bexpr (by first | assumption | omega)) ?_; exact BG.ret (GE.is _ _ _ _ _ _ _ _)) fun h => ?_
  have h2 := nx g hj h
  refine RT_want hl.len h2 wLb (by refine B_n (C_btake (by first | assumption | omega) _) ?_; refine B_n (C_btake (by first | assumption | omega) _) ?_; refine B_E (C_bexpr (by first | assumption | omega)) ?_; refine B_n (C_btake (by first | assumption | omega) _) ?_; refine B_K (C_bkind _) ?_; refine B_n (C_btake (by first | assumption | omega) _) ?_; refine B_K (C_bkind _) ?_; refine B_n (C_btake (by first | assumption | omega) _) ?_; refine B_E (C_bexpr (by first | assumption | omega)) ?_; exact BG.ret (GE.is _ _ _ _ _ _ _ _)) fun h => ?_
  have h3 := nx g h2 h
  refine RT_want hl.len h3 wRb (by refine B_n (C_btake (by first | assumption | omega) _) ?_; refine B_E (C_bexpr (by first | assumption | omega)) ?_; refine B_n (C_btake (by first | assumption | omega) _) ?_; refine B_K (C_bkind _) ?_; refine B_n (C_btake (by first | assumption | omega) _) ?_; refine B_K (C_bkind _) ?_; refine B_n (C_btake (by first | assumption | omega) _) ?_; refine B_E (C_bexpr (by first | assumption | omega)) ?_; exact BG.ret (GE.is _ _ _ _ _ _ _ _)) fun h => ?_
  have h4 := nx g h3 h
  refine RT_want hl.len h4 wAr (by refine B_E (C_bexpr (by first | assumption | omega)) ?_; refine B_n (C_btake (by first | assumption | omega) _) ?_; refine B_K (C_bkind _) ?_; refine B_n (C_btake (by first | assumption | omega) _) ?_; refine B_K (C_bkind _) ?_; refine B_n (C_btake (by first | assumption | omega) _) ?_; refine B_E (C_bexpr (by first | assumption | omega)) ?_; exact BG.ret (GE.is _ _ _ _ _ _ _ _)) fun h => ?_
  have h5 := nx g h4 h
  refine RC_E g h5 (H _ (by omega) h5).expr (fun j hj _ _ _ _ _ _ _ _ => by refine B_n (C_btake (by first | assumption | omega) _) ?_; refine B_K (C_bkind _) ?_; refine B_n (C_btake (by first | assumption | omega) _) ?_; refine B_K (C_bkind _) ?_; refine B_n (C_btake (by first | assumption | omega) _) ?_; refine B_E (C_bexpr (by first | assumption | omega)) ?_; exact BG.ret (GE.is _ _ _ _ _ _ _ _)) fun b j2 hij2 hj2 => ?_
  refine RT_want hl.len hj2 wBar (by refine B_K (C_bkind _) ?_; refine B_n (C_btake (by first | assumption | omega) _) ?_; refine B_K (C_bkind _) ?_; refine B_n (C_btake (by first | assumption | omega) _) ?_; refine B_E (C_bexpr (by first | assumption | omega)) ?_; exact BG.ret (GE.is _ _ _ _ _ _ _ _)) fun h => ?_
  have h6 := nx g hj2 h
  refine RT_kind hl.len h6 1 (by decide) (by refine B_n (C_btake (by first | assumption | omega) _) ?_; refine B_K (C_bkind _) ?_; refine B_n (C_btake (by first | assumption | omega) _) ?_; refine B_E (C_bexpr (by first | assumption | omega)) ?_; exact BG.ret (GE.is _ _ _ _ _ _ _ _)) fun h => ?_
  have h7 := nxk g h6 h (by decide)
  refine RT_want hl.len h7 wCc (by refine B_K (C_bkind _) ?_; refine B_n (C_btake (by first | assumption | omega) _) ?_; refine B_E (C_bexpr (by first | assumption | omega)) ?_; exact BG.ret (GE.is _ _ _ _ _ _ _ _)) fun h => ?_
  have h8 := nx g h7 h
  refine RT_kind hl.len h8 1 (by decide) (by refine B_n (C_btake (by first | assumption | omega) _) ?_; refine B_E (C_bexpr (by first | assumption | omega)) ?_; exact BG.ret (GE.is _ _ _ _ _ _ _ _)) fun h => ?_
  have h9 := nxk g h8 h (by decide)
  refine RT_want hl.len h9 wAr (by refine B_E (C_bexpr (by first | assumption | omega)) ?_; exact BG.ret (GE.is _ _ _ _ _ _ _ _)) fun h => ?_
  have h10 := nx g h9 h
  refine RC_E g h10 (H _ (by omega) h10).expr (fun j hj _ _ _ _ _ _ _ _ => by exact BG.ret (GE.is _ _ _ _ _ _ _ _)) fun c j3 hij3 hj3 => ?_
  rw [← E.rows_three]
  exact RG.ret (P := pw l) fun _ _ _ => rfl
omit hN in
theorem rlets (t : Tok) (ns : List (List UInt8)) (i : Nat) (hi : i < l.length) (H : ∀ j, i ≤ j → j < l.length → AtR l j) (z2 : List (List D)) (z3 : Int) (z4 : Bool) (x3 x4 : Int) (s5 : ByteArray) (x6 x7 : Int) :
    RG l eV GE (fun m κ n => q49_2 (Ak κ) n z2 z3 z4 (toks l) (Int.ofNat i) false x3 x4 s5 x6 x7 8 0 (ByteArray.mk #[]) (strs ns) t.line t.col) (run (pw l) l (lets t ns) i) := by
  have g := hl.good
  simp only [q49_2_eq]
  unfold lets
  refine RT_want hl.len hi wEq (by refine B_W (C_btwo1 (by first | assumption | omega) _ _ _ _ _ _ _) ?_; exact BG.ret (GE.is _ _ _ _ _ _ _ _)) fun h => ?_
  have h1 := nx g hi h
  refine RT_two1 hl h1 (fun j h3 h4 => H j (by omega) h4) _ _ _ _ _ _ wIn (g := fun x y => .ret (.mk 8 0 [] ns [] [x, y] t.line t.col)) (fun j hj r1 r2 => by exact BG.ret (GE.is _ _ _ _ _ _ _ _)) fun a b j hij hj => ?_
  exact RG.ret (P := pw l) fun _ _ _ => rfl
omit hl hN in
theorem bad_lets {j : Nat} (hj : j < l.length) (z2 : List (List D)) (z3 : Int) (z4 : Bool) (x3 x4 : Int) (s5 : ByteArray) (x6 x7 : Int) (k n : Int) (s : ByteArray) (a : List (List D)) (x y : Int) :
    BG l GE (fun m κ n' => q49_2 (Ak κ) n' z2 z3 z4 (toks l) (Int.ofNat j) true x3 x4 s5 x6 x7 k n s a x y) j := by simp only [q49_2_eq]; refine B_n (C_btake (by first | assumption | omega) _) ?_; refine B_W (C_btwo1 (by first | assumption | omega) _ _ _ _ _ _ _) ?_; exact BG.ret (GE.is _ _ _ _ _ _ _ _)
omit hN in
theorem rnames : ∀ (d i : Nat), i < l.length → l.length - i ≤ d → (∀ j, i ≤ j → j < l.length → AtR l j) → ∀ (t : Tok) (acc : List (List UInt8)) (z3 : List (List D)) (z4 : Int) (z5 : Bool) (x3 x4 : Int) (s5 : ByteArray) (x6 x7 : Int), acc.length ≤ i →
    RG l eV GE (fun m κ n => l49_0 m (Ak κ) n z3 z4 z5 (toks l) (Int.ofNat i) false x3 x4 s5 x6 x7 8 0 (ByteArray.mk #[]) (strs acc) t.line t.col) (run (pw l) l (.call .names fun r => lets t (acc ++ r)) i)
  | 0, i, hi, h, _, _, _, _, _, _, _, _, _, _, _, _ => by omega
  | d + 1, i, hi, hd, H, t, acc, z3, z4, z5, x3, x4, s5, x6, x7, ha => by
    have g := hl.good
    rw [run_open g _ _ i hi]
    refine RG.step ?_
    simp only [l49_0_eq]
    refine RT_may hl.len hi wCm (fun h => RG.yes rfl ?_) (fun h => RG.no rfl ?_)
    · have h1 := nx g hi h
      simp only [q49_0_eq]
      refine RT_kind hl.len h1 1 (by decide) (by refine BG.yes (by rw [strs_len]; exact roomy _ _ (by have := hl.len; omega) (by omega)) ?_; refine BG.step ?_; simp only [l49_0_eq]; refine B_B (C_bmay (by assumption) _) ?_; refine BG.no rfl ?_; simp only [q49_1_eq]; refine B_n (C_btake (by assumption) _) ?_; exact bad_lets h1 _ _ _ _ _ _ _ _ _ _ _ _ _ _) fun h2 => ?_
      have h3 := nxk g h1 h2 (by decide)
      refine RG.yes (by rw [strs_len]; exact roomy _ _ (by have := hl.len; omega) (by omega)) ?_
      rw [← strs_app]
      have := rnames d (i + 1 + 1) h3 (by omega) (fun j' h1 h2 => H j' (by omega) h2) t (acc ++ [(tk l (i + 1)).text]) z3 z4 z5 x3 x4 s5 x6 x7 (by rw [List.length_append, List.length_singleton]; omega)
      simp only [List.append_assoc, List.singleton_append] at this
      exact this
    · simp only [q49_1_eq]
      refine RT_want hl.len hi wRp (bad_lets hi _ _ _ _ _ _ _ _ _ _ _ _ _ _) fun h2 => ?_
      have h3 := nx g hi h2
      show RG l eV GE _ (run (pw l) l (lets t (acc ++ [])) (i + 1))
      rw [List.append_nil]
      exact rlets hl t acc _ h3 (fun j' h1 h2 => H j' (by omega) h2) _ _ _ _ _ _ _ _
omit hN in
theorem ok_expr (i : Nat) (hi : i < l.length) (H : AfterR l i) (h0 : RG l eV GE (fun _ κ _ => Ak κ false 74 [P0] (rbs l i false)) (pw l (.level 0) i)) : RG l eV GE (fun _ κ _ => Ak κ false 49 [P0] (rbs l i false)) (pw l .expr i) := by
  have g := hl.good
  rw [pw_eq g _ i hi]
  refine RG.map (fun o h => call49 _ _ _ h) ?_
  simp only [e49_eq]
  refine RG.no rfl ?_
  show RG l eV GE _ (run (pw l) l (Pm.take wLet (Pm.take wLp (Pm.kind 1 fun a => want wCm (Pm.kind 1 fun b => .call .names fun r => lets (tk l i) (a.text :: b.text :: r))) (Pm.kind 1 fun a => lets (tk l i) [a.text]))
      (Pm.take wIf (.call .expr fun x => want wThen (.call .expr fun y => want wElse (.call .expr fun z => .ret (E.mk 9 0 [] [] [] [x, y, z] (tk l i).line (tk l i).col))))
      (Pm.take wCase (caseK (tk l i))
      (Pm.take wObserve (.call .expr fun x => want wIn (.call .expr fun y => .ret (E.mk 11 0 [] [] [] [x, y] (tk l i).line (tk l i).col)))
      (Pm.take wScore (.call .share fun o => want wIn (.call .expr fun x => .ret (E.mk 12 0 [] [] o [x] (tk l i).line (tk l i).col)))
      (.call (.level 0) .ret)))))) i)
  have HH : ∀ j, i + 1 ≤ j → j < l.length → AtR l j := fun j h1 h2 => H j (by omega) h2
  refine RT_is hi wLet (fun h => RG.yes rfl ?_) (fun h => RG.no rfl ?_)
  · have h1 := nx g hi h
    refine R_H (C_rhere hi _ _) (R_K (C_rnext_yes hl.len hi (isT_kind h)) ?_)
    show RG l eV GE _ (run (pw l) l (Pm.take wLp (Pm.kind 1 fun a => want wCm (Pm.kind 1 fun b => .call .names fun r => lets (tk l i) (a.text :: b.text :: r))) (Pm.kind 1 fun a => lets (tk l i) [a.text])) (i + 1))
    refine RT_may hl.len h1 wLp (fun h => RG.yes rfl ?_) (fun h => RG.no rfl ?_)
    · have h2 := nx g h1 h
      have badn : ∀ j, j < l.length → ∀ (x y : Int) (c : List (List D)), BG l GE (fun m κ n => l49_0 m (Ak κ) n (toks l) (Int.ofNat i) false (toks l) (Int.ofNat j) true 0 0 (ByteArray.mk #[]) 0 0 8 0 (ByteArray.mk #[]) c x y) j := fun j hj x y c => by
        refine BG.step ?_
        simp only [l49_0_eq]
        refine B_B (C_bmay hj _) (BG.no rfl ?_)
        simp only [q49_1_eq]
        exact B_n (C_btake hj _) (bad_lets hj _ _ _ _ _ _ _ _ _ _ _ _ _ _)
      refine RT_kind hl.len h2 1 (by decide) (by refine B_n (C_btake h2 _) ?_; refine B_K (C_bkind _) ?_; exact BG.diag (badn _ h2 _ _ _)) fun h => ?_
      have h3 := nxk g h2 h (by decide)
      refine RT_want hl.len h3 wCm (by refine B_K (C_bkind _) ?_; exact BG.diag (badn _ h3 _ _ _)) fun h => ?_
      have h4 := nx g h3 h
      refine RT_kind hl.len h4 1 (by decide) (BG.diag (badn _ h4 _ _ _)) fun h => ?_
      have h5 := nxk g h4 h (by decide)
      exact RG.diag (rnames hl _ _ h5 (Nat.le_refl _) (fun j' h1 h2 => H j' (by omega) h2) (tk l i) [_, _] _ _ _ _ _ _ _ _ (by simp only [List.length_cons, List.length_nil]; omega))
    · refine RT_kind hl.len h1 1 (by decide) (bad_lets h1 _ _ _ _ _ _ _ _ _ _ _ _ _ _) fun h => ?_
      have h2 := nxk g h1 h (by decide)
      exact rlets hl (tk l i) [_] _ h2 (fun j' h1 h2 => H j' (by omega) h2) _ _ _ _ _ _ _ _
  refine RT_is hi wIf (fun h => RG.yes rfl ?_) (fun h => RG.no rfl ?_)
  · have h1 := nx g hi h
    refine R_H (C_rhere hi _ _) (R_K (C_rnext_yes hl.len hi (isT_kind h)) ?_)
    show RG l eV GE _ (run (pw l) l (.call .expr fun x => want wThen (.call .expr fun y => want wElse (.call .expr fun z => .ret (E.mk 9 0 [] [] [] [x, y, z] (tk l i).line (tk l i).col)))) (i + 1))
    refine RT_two hl h1 HH _ _ _ _ _ wThen (g := fun x y => want wElse (.call .expr fun z => .ret (E.mk 9 0 [] [] [] [x, y, z] (tk l i).line (tk l i).col))) (fun j hj r1 r2 => by refine B_n (C_btake (by first | assumption | omega) _) ?_; refine B_E (C_bexpr (by first | assumption | omega)) ?_; refine BG.yes rfl ?_; exact BG.ret (GE.is _ _ _ _ _ _ _ _)) fun a b j hij hj => ?_
    refine RT_want hl.len hj wElse (by refine B_E (C_bexpr (by first | assumption | omega)) ?_; refine BG.yes (by rw [E.rows_len]; rfl) ?_; exact BG.ret (GE.is _ _ _ _ _ _ _ _)) fun h => ?_
    have h2 := nx g hj h
    refine RC_E g h2 (H _ (by omega) h2).expr (fun j hj _ _ _ _ _ _ _ _ => by refine BG.yes (by rw [E.rows_len]; rfl) ?_; exact BG.ret (GE.is _ _ _ _ _ _ _ _)) fun c j2 hij2 hj2 => ?_
    refine RG.yes (by rw [E.rows_len]; rfl) ?_
    rw [← E.rows_app]
    exact RG.ret (P := pw l) fun _ _ _ => rfl
  refine RT_is hi wCase (fun h => RG.yes rfl ?_) (fun h => RG.no rfl ?_)
  · have hc := ok_cases hl i hi H h
    show RG l eV GE _ (run (pw l) l (caseK (tk l i)) (i + 1))
    have e : run (pw l) l (caseK (tk l i)) (i + 1) = thenR (run (pw l) l (caseK (tk l i)) (i + 1)) fun a j => .ok a j := by cases run (pw l) l (caseK (tk l i)) (i + 1) <;> rfl
    rw [e]
    exact RR_E hc (fun j hj _ _ _ _ _ _ _ _ => by exact BG.ret (GE.is _ _ _ _ _ _ _ _)) fun a j hj => Ev.of fun _ _ _ => rfl
  refine RT_is hi wObserve (fun h => RG.yes rfl ?_) (fun h => RG.no rfl ?_)
  · have h1 := nx g hi h
    refine R_H (C_rhere hi _ _) (R_K (C_rnext_yes hl.len hi (isT_kind h)) ?_)
    show RG l eV GE _ (run (pw l) l (.call .expr fun x => want wIn (.call .expr fun y => .ret (E.mk 11 0 [] [] [] [x, y] (tk l i).line (tk l i).col))) (i + 1))
    refine RT_two hl h1 HH _ _ _ _ _ wIn (g := fun x y => .ret (E.mk 11 0 [] [] [] [x, y] (tk l i).line (tk l i).col)) (fun j hj r1 r2 => by exact BG.ret (GE.is _ _ _ _ _ _ _ _)) fun a b j hij hj => ?_
    exact RG.ret (P := pw l) fun _ _ _ => rfl
  refine RT_is hi wScore (fun h => RG.yes rfl ?_) (fun h => RG.no rfl ?_)
  · have h1 := nx g hi h
    refine R_H (C_rhere hi _ _) (R_K (C_rnext_yes hl.len hi (isT_kind h)) ?_)
    show RG l eV GE _ (run (pw l) l (.call .share fun o => want wIn (.call .expr fun x => .ret (E.mk 12 0 [] [] o [x] (tk l i).line (tk l i).col))) (i + 1))
    rw [run_call]
    refine RR_O (rodds_ok hl _ h1) (fun j hj _ => ?_) fun os j hj => ?_
    · have hj := pw_no g h1 hj
      exact by refine B_n (C_btake (by first | assumption | omega) _) ?_; refine B_E (C_bexpr (by first | assumption | omega)) ?_; exact BG.ret (GE.is _ _ _ _ _ _ _ _)
    have hf := pw_ok g h1 hj
    refine RT_want hl.len hf.2 wIn (by refine B_E (C_bexpr (by first | assumption | omega)) ?_; exact BG.ret (GE.is _ _ _ _ _ _ _ _)) fun h => ?_
    have h2 := nx g hf.2 h
    refine RC_E g h2 (H _ (by omega) h2).expr (fun j hj _ _ _ _ _ _ _ _ => by exact BG.ret (GE.is _ _ _ _ _ _ _ _)) fun c j2 hij2 hj2 => ?_
    rw [← E.rows_one]
    exact RG.ret (P := pw l) fun _ _ _ => rfl
  simp only [q49_3_eq]
  rw [run_call]
  refine RR_E h0 (fun j hj _ _ _ _ _ _ _ _ => by exact BG.ret (GE.is _ _ _ _ _ _ _ _)) fun a j hj => ?_
  exact RG.ret (P := pw l) fun _ _ _ => rfl
theorem allR : ∀ (d i : Nat), i < l.length → l.length - i ≤ d → AtR l i
  | 0, i, hi, h => by omega
  | d + 1, i, hi, h => by
    have H : AfterR l i := fun j h1 h2 => allR d j h2 (by omega)
    have ha := ok_atom hl hN i hi H
    have hu := ok_unary hl i hi H ha
    have h5 := ok_R_product hl i hi H (by rw [level6 hl.good i hi]; exact hu)
    have h4 := ok_R_sum hl i hi H h5
    have h3 := ok_cons hl i hi H h4
    have h2 := ok_rel hl i hi H h3
    have h1 := ok_R_and hl i hi H h2
    have h0 := ok_R_or hl i hi H h1
    exact ⟨ok_expr hl i hi H h0, h1, h3, h2, h5, hu⟩
theorem rexpr_ok (i : Nat) (hi : i < l.length) : RG l eV GE (fun _ κ _ => Ak κ false 49 [P0] (rbs l i false)) (pw l .expr i) := (allR hl hN _ i hi (Nat.le_refl _)).expr
end
end Go.Proofs.YtbmcafehpgimfaaGreat.Ps
namespace Go.Proofs.YtbmcafehpgimfaaGreat.Ps
set_option linter.unusedVariables false
set_option linter.unusedSimpArgs false
open Go Go.RowKit Px Lx

def fltX (f : Flt) : List X := [iX f.e, sX f.text, iX f.line, iX f.col]
def fine : List X := [iX 0, sX [], iX 0, iX 0]
def tokOut (acc : List Tok) : Except Flt (List Tok) → V
  | .ok l => V.tup [V.one (X.d (D.list 5 (toks (acc ++ l)))), V.agg fine]
  | .error f => V.tup [V.one (X.d (D.list 5 [])), V.agg (fltX f)]
theorem toks_app (a : List Tok) (t : Tok) : toks (a ++ [t]) = toks a ++ [[D.int IntKind.i64 t.kind, D.str (bx t.text), D.int IntKind.i64 t.n, D.int IntKind.i64 t.line, D.int IntKind.i64 t.col]] := by
  unfold toks; rw [List.map_append]; rfl
theorem tok_bad {l : List UInt8} {e : Int} {w : List UInt8} (h : Lx.tok l = .bad e w) : e ≠ 0 := by
  unfold Lx.tok at h
  split at h
  · split at h
    · cases h; decide
    · split at h <;> cases h
  · split at h
    · split at h
      · cases h; decide
      · cases h
    · split at h
      · cases h; decide
      · cases h
def push (acc : List Tok) (t : Tok) (r : Except Flt (List Tok)) : V := tokOut (acc ++ [t]) r
theorem tokOut_cons (acc : List Tok) (t : Tok) (r : Except Flt (List Tok)) : tokOut acc (match r with | .error f => .error f | .ok l => .ok (t :: l)) = tokOut (acc ++ [t]) r := by
  cases r with
  | error f => rfl
  | ok l => unfold tokOut; simp only [List.append_assoc, List.singleton_append]
theorem byte_no {c : UInt8} {n : Nat} (h : ¬ c.toNat = n) : (Int.ofNat c.toNat == Int.ofNat n) = false := by
  rw [beq_eq_false_iff_ne]
  intro e
  exact h (Int.ofNat.inj e)
theorem byte_yes {c : UInt8} {n : Nat} (h : c.toNat = n) : (Int.ofNat c.toNat == Int.ofNat n) = true := by rw [h]; simp
theorem add_wrap (a b : Nat) (h : a + b ≤ 2000000) : IntKind.wrap .i64 (Int.ofNat a + Int.ofNat b) = Int.ofNat (a + b) := by
  rw [wrap_in _ (by simp only [Int.ofNat_eq_natCast]; omega) (by simp only [Int.ofNat_eq_natCast]; omega)]
  simp
theorem col_wrap (i b : Nat) (h : b ≤ i) (h2 : i ≤ 1000000) : IntKind.wrap .i64 (IntKind.wrap .i64 (Int.ofNat i - Int.ofNat b) + 1) = Int.ofNat i - Int.ofNat b + 1 := by
  rw [wrap_in (Int.ofNat i - Int.ofNat b) (by simp only [Int.ofNat_eq_natCast]; omega) (by simp only [Int.ofNat_eq_natCast]; omega), wrap_in _ (by simp only [Int.ofNat_eq_natCast]; omega) (by simp only [Int.ofNat_eq_natCast]; omega)]
theorem L_comment_v1 (l : List UInt8) (hl : l.length ≤ 1000000) (acc : List Tok) (x1 x2 x4 : Int) (s5 : ByteArray) (x6 x7 : Int) (Γ : Bool → SemL) (m0 n0 : Nat) (o : Option Out) : ∀ (d i : Nat), i ≤ l.length → l.length - i = d →
    l33_0_v1 m0 Γ n0 (bx l) (toks acc) x1 x2 (Int.ofNat (i + ((l.drop i).takeWhile nnl).length)) x4 s5 x6 x7 = o → ∀ m, d < m → l33_1_v1 m Γ m0 n0 (bx l) (toks acc) x1 x2 (Int.ofNat i) x4 s5 x6 x7 = o := by
  intro d
  induction d with
  | zero =>
    intro i hi hd h m hm
    rw [List.drop_eq_nil_of_le (by omega)] at h
    obtain ⟨m, rfl⟩ : ∃ m', m = m' + 1 := ⟨m - 1, by omega⟩
    rw [l33_1_v1_eq, lt_no i _ (by rw [bx_size]; omega), cond_false, q33_3_v1_eq]
    exact h
  | succ d ih =>
    intro i hi hd h m hm
    obtain ⟨m, rfl⟩ : ∃ m', m = m' + 1 := ⟨m - 1, by omega⟩
    rcases drop_cases l i hi with ⟨e, _⟩ | ⟨hlt, c, t, hc, ht⟩
    · omega
    · have hb := get_bx l i c t hc
      rw [hc] at h
      rw [l33_1_v1_eq, lt_yes i _ (by rw [bx_size]; exact hlt), cond_true, show decide ((0 : Int) ≤ Int.ofNat i) = true from decide_eq_true (Int.natCast_nonneg i), Bool.true_and, cond_true, hb]
      by_cases hn : c.toNat = 10
      · rw [List.takeWhile_cons_of_neg (by simp [nnl, hn])] at h
        rw [bne, show (Int.ofNat c.toNat == 10) = true from byte_yes (n := 10) hn, Bool.not_true, cond_false, q33_3_v1_eq]
        exact h
      · rw [List.takeWhile_cons_of_pos (by simp [nnl, hn])] at h
        rw [bne, show (Int.ofNat c.toNat == 10) = false from byte_no (n := 10) hn, Bool.not_false, cond_true, q33_2_v1_eq, wrap_up i (by omega)]
        exact ih (i + 1) (by omega) (by omega) (by rw [ht]; simpa [Nat.add_assoc, Nat.add_comm 1] using h) m (by omega)
theorem L_scan_v1 (l : List UInt8) (hl : l.length ≤ 1000000) (x4 : Int) (s5 : ByteArray) (x6 x7 : Int) : ∀ (d i : Nat), l.length - i < d → i ≤ l.length → ∀ (acc : List Tok) (line : Nat) (b : Nat), b ≤ i → line ≤ i + 1 → acc.length ≤ i →
    Ev (fun m k n => l33_0_v1 m (Ak k) n (bx l) (toks acc) (Int.ofNat line) (Int.ofNat b) (Int.ofNat i) x4 s5 x6 x7) (RV (tokOut acc (scan (l.drop i) (Int.ofNat line) (Int.ofNat i - Int.ofNat b + 1)))) := by
  intro d
  induction d with
  | zero => intro i h; omega
  | succ d ih =>
    intro i hd hi acc line b hb hline ha
    refine Ev.step ?_
    simp only [l33_0_v1_eq]
    rcases drop_cases l i hi with ⟨e, hnil⟩ | ⟨hlt, c, t, hc, ht⟩
    · subst e
      rw [hnil, scan]
      refine Ev.no (lt_no _ _ (by rw [bx_size]; omega)) ?_
      simp only [q33_6_v1_eq, bx_size, col_wrap l.length b hb hl]
      refine Ev.yes (by rw [toks_len]; exact Nat.ble_eq_true_of_le (by show (acc.length + 1) * 49 ≤ _; omega)) (Ev.of fun m k n => ?_)
      show some _ = some (RV (V.tup [V.one (X.d (D.list 5 (toks (acc ++ [_])))), _]))
      rw [toks_app]
      rfl
    · have hget := get_bx l i c t hc
      refine Ev.yes (lt_yes i _ (by rw [bx_size]; exact hlt)) ?_
      simp only [q33_1_v1_eq, hget, wrap_up i (show i < 9223372036854775807 by omega), wrap_up line (show line < 9223372036854775807 by omega)]
      refine Ev.yes (in_range i _ (by rw [bx_size]; exact hlt)) ?_
      rw [hc, scan]
      have next : Ev (fun m k n => l33_0_v1 m (Ak k) n (bx l) (toks acc) (Int.ofNat line) (Int.ofNat b) (Int.ofNat (i + 1)) x4 s5 x6 x7) (RV (tokOut acc (scan t (Int.ofNat line) (Int.ofNat i - Int.ofNat b + 1 + 1)))) := by
        have := ih (i + 1) (by omega) (by omega) acc line b (by omega) (by omega) (by omega)
        rw [ht] at this
        have e1 : Int.ofNat (i + 1) - Int.ofNat b + 1 = Int.ofNat i - Int.ofNat b + 1 + 1 := by simp only [Int.ofNat_eq_natCast]; omega
        rw [e1] at this
        exact this
      by_cases h10 : c.toNat = 10
      · rw [if_pos h10]
        refine Ev.yes (byte_yes (n := 10) h10) ?_
        have := ih (i + 1) (by omega) (by omega) acc (line + 1) (i + 1) (by omega) (by omega) (by omega)
        rw [ht, Int.sub_self] at this
        exact this
      rw [if_neg h10]
      refine Ev.no (byte_no (n := 10) h10) ?_
      by_cases h32 : c.toNat = 32
      · rw [if_pos (by simp [ws, h32])]
        exact Ev.yes (byte_yes (n := 32) h32) next
      refine Ev.no (byte_no (n := 32) h32) ?_
      by_cases h9 : c.toNat = 9
      · rw [if_pos (by simp [ws, h9])]
        exact Ev.yes (byte_yes (n := 9) h9) next
      refine Ev.no (byte_no (n := 9) h9) ?_
      by_cases h13 : c.toNat = 13
      · rw [if_pos (by simp [ws, h13])]
        exact Ev.yes (byte_yes (n := 13) h13) next
      refine Ev.no (byte_no (n := 13) h13) ?_
      rw [if_neg (by simp [ws, h32, h9, h13])]
      by_cases h35 : c.toNat = 35
      · rw [if_pos h35]
        refine Ev.yes (byte_yes (n := 35) h35) ?_
        have hle : (t.takeWhile nnl).length ≤ t.length := (List.takeWhile_sublist nnl).length_le
        have htl : t.length = l.length - i - 1 := by
          have := congrArg List.length hc
          rw [List.length_drop, List.length_cons] at this
          omega
        have hdw : l.drop (i + 1 + (t.takeWhile nnl).length) = t.dropWhile nnl := by
          rw [← List.drop_drop, ht]
          have := List.takeWhile_append_dropWhile (p := nnl) (l := t)
          conv => lhs; rw [← this]
          rw [List.drop_append_of_le_length (by rw [this]; exact Nat.le_refl _) |>.trans (by rw [this])] <;> simp
        have := ih (i + 1 + (t.takeWhile nnl).length) (by omega) (by omega) acc line b (by omega) (by omega) (by omega)
        rw [hdw] at this
        have e1 : Int.ofNat (i + 1 + (t.takeWhile nnl).length) - Int.ofNat b + 1 = Int.ofNat i - Int.ofNat b + 1 + 1 + ((t.takeWhile nnl).length : Int) := by simp only [Int.ofNat_eq_natCast]; omega
        rw [e1] at this
        obtain ⟨K, hK⟩ := this
        refine ⟨K + l.length + 1, fun m k n h1 h2 h3 => ?_⟩
        refine L_comment_v1 l hl acc _ _ _ _ _ _ (Ak k) m n _ (l.length - i) i hi rfl ?_ m (by omega)
        rw [hc, List.takeWhile_cons_of_pos (by simp [nnl, h35]), List.length_cons]
        rw [show i + ((t.takeWhile nnl).length + 1) = i + 1 + (t.takeWhile nnl).length by omega]
        exact hK m k n (by omega) (by omega) (by omega)
      rw [if_neg h35]
      refine Ev.no (byte_no (n := 35) h35) ?_
      have hext : (bx l).extract (Int.toNat (Int.ofNat i)) (Int.toNat (Int.ofNat l.length)) = bx (c :: t) := by
        rw [ext_bx, ← hc]
        show bx ((l.take l.length).drop i) = _
        rw [List.take_length]
      simp only [q33_4_v1_eq, bx_size, hext]
      refine Ev.yes (by simp only [Int.ofNat_eq_natCast, Bool.and_eq_true, decide_eq_true_eq]; omega) ?_
      have hone := C_one (c :: t) (by simp) (by rw [← hc, List.length_drop]; omega)
      cases htok : Lx.tok (c :: t) with
      | bad e w =>
        rw [htok] at hone
        refine v_t2a5ISIIIoI hone (Ev.yes (by simpa using tok_bad htok) (Ev.of fun m k n => ?_))
        rw [col_wrap i b hb (by omega)]
        rfl
      | ok κ w n =>
        rw [htok] at hone
        refine v_t2a5ISIIIoI hone (Ev.no rfl ?_)
        have hw := tok_take htok
        have hwl : 1 ≤ w.length := by
          cases w with
          | nil => exact absurd rfl hw.2
          | cons => simp
        have hwle : w.length ≤ (c :: t).length := by
          have := congrArg List.length hw.1
          rw [List.length_take] at this
          omega
        have htl : (c :: t).length = l.length - i := by rw [← hc, List.length_drop]
        have hdr : l.drop (i + w.length) = t.drop (w.length - 1) := by
          rw [← List.drop_drop, hc]
          cases w with
          | nil => exact absurd rfl hw.2
          | cons a w' => rfl
        simp only [q33_5_v1_eq, bx_size, add_wrap i w.length (by omega), col_wrap i b hb (by omega : i ≤ 1000000)]
        show Ev _ (RV (tokOut acc (match scan (t.drop (w.length - 1)) (Int.ofNat line) (Int.ofNat i - Int.ofNat b + 1 + (w.length : Int)) with | .error f => .error f | .ok l => .ok (⟨κ, w, n, Int.ofNat line, Int.ofNat i - Int.ofNat b + 1⟩ :: l))))
        rw [tokOut_cons]
        have e1 : Int.ofNat (i + w.length) - Int.ofNat b + 1 = Int.ofNat i - Int.ofNat b + 1 + (w.length : Int) := by simp only [Int.ofNat_eq_natCast]; omega
        have := ih (i + w.length) (by omega) (by omega) (acc ++ [⟨κ, w, n, Int.ofNat line, Int.ofNat i - Int.ofNat b + 1⟩]) line b (by omega) (by omega) (by rw [List.length_append, List.length_singleton]; omega)
        rw [hdr, e1, toks_app] at this
        exact Ev.yes (by rw [toks_len]; exact Nat.ble_eq_true_of_le (by show (acc.length + 1) * 49 ≤ _; omega)) this
theorem L_comment (l : List UInt8) (hl : l.length ≤ 1000000) (x1 x2 x4 : Int) (s5 : ByteArray) (x6 x7 : Int) (Γ : Bool → SemL) (m0 n0 : Nat) (o : Option Out) : ∀ (d i : Nat), i ≤ l.length → l.length - i = d →
    l33_0 m0 Γ n0 (bx l) x1 x2 (Int.ofNat (i + ((l.drop i).takeWhile nnl).length)) x4 s5 x6 x7 = o → ∀ m, d < m → l33_1 m Γ m0 n0 (bx l) x1 x2 (Int.ofNat i) x4 s5 x6 x7 = o := by
  intro d
  induction d with
  | zero =>
    intro i hi hd h m hm
    rw [List.drop_eq_nil_of_le (by omega)] at h
    obtain ⟨m, rfl⟩ : ∃ m', m = m' + 1 := ⟨m - 1, by omega⟩
    rw [l33_1_eq, lt_no i _ (by rw [bx_size]; omega), cond_false, q33_3_eq]
    exact h
  | succ d ih =>
    intro i hi hd h m hm
    obtain ⟨m, rfl⟩ : ∃ m', m = m' + 1 := ⟨m - 1, by omega⟩
    rcases drop_cases l i hi with ⟨e, _⟩ | ⟨hlt, c, t, hc, ht⟩
    · omega
    · have hb := get_bx l i c t hc
      rw [hc] at h
      rw [l33_1_eq, lt_yes i _ (by rw [bx_size]; exact hlt), cond_true, show decide ((0 : Int) ≤ Int.ofNat i) = true from decide_eq_true (Int.natCast_nonneg i), Bool.true_and, cond_true, hb]
      by_cases hn : c.toNat = 10
      · rw [List.takeWhile_cons_of_neg (by simp [nnl, hn])] at h
        rw [bne, show (Int.ofNat c.toNat == 10) = true from byte_yes (n := 10) hn, Bool.not_true, cond_false, q33_3_eq]
        exact h
      · rw [List.takeWhile_cons_of_pos (by simp [nnl, hn])] at h
        rw [bne, show (Int.ofNat c.toNat == 10) = false from byte_no (n := 10) hn, Bool.not_false, cond_true, q33_2_eq, wrap_up i (by omega)]
        exact ih (i + 1) (by omega) (by omega) (by rw [ht]; simpa [Nat.add_assoc, Nat.add_comm 1] using h) m (by omega)
theorem L_scan (l : List UInt8) (hl : l.length ≤ 1000000) (x4 : Int) (s5 : ByteArray) (x6 x7 : Int) : ∀ (d i : Nat), l.length - i < d → i ≤ l.length → ∀ (line : Nat) (b : Nat), b ≤ i → line ≤ i + 1 → 
    Ev (fun m k n => l33_0 m (Ak k) n (bx l) (Int.ofNat line) (Int.ofNat b) (Int.ofNat i) x4 s5 x6 x7) (RV (tokOut [] (scan (l.drop i) (Int.ofNat line) (Int.ofNat i - Int.ofNat b + 1)))) := by
  intro d
  induction d with
  | zero => intro i h; omega
  | succ d ih =>
    intro i hd hi line b hb hline
    refine Ev.step ?_
    simp only [l33_0_eq]
    rcases drop_cases l i hi with ⟨e, hnil⟩ | ⟨hlt, c, t, hc, ht⟩
    · subst e
      rw [hnil, scan]
      refine Ev.no (lt_no _ _ (by rw [bx_size]; omega)) ?_
      simp only [q33_6_eq, bx_size, col_wrap l.length b hb hl]
      exact Ev.of fun m k n => rfl
    · have hget := get_bx l i c t hc
      refine Ev.yes (lt_yes i _ (by rw [bx_size]; exact hlt)) ?_
      simp only [q33_1_eq, hget, wrap_up i (show i < 9223372036854775807 by omega), wrap_up line (show line < 9223372036854775807 by omega)]
      refine Ev.yes (in_range i _ (by rw [bx_size]; exact hlt)) ?_
      rw [hc, scan]
      have next : Ev (fun m k n => l33_0 m (Ak k) n (bx l) (Int.ofNat line) (Int.ofNat b) (Int.ofNat (i + 1)) x4 s5 x6 x7) (RV (tokOut [] (scan t (Int.ofNat line) (Int.ofNat i - Int.ofNat b + 1 + 1)))) := by
        have := ih (i + 1) (by omega) (by omega) line b (by omega) (by omega)
        rw [ht] at this
        have e1 : Int.ofNat (i + 1) - Int.ofNat b + 1 = Int.ofNat i - Int.ofNat b + 1 + 1 := by simp only [Int.ofNat_eq_natCast]; omega
        rw [e1] at this
        exact this
      by_cases h10 : c.toNat = 10
      · rw [if_pos h10]
        refine Ev.yes (byte_yes (n := 10) h10) ?_
        have := ih (i + 1) (by omega) (by omega) (line + 1) (i + 1) (by omega) (by omega)
        rw [ht, Int.sub_self] at this
        exact this
      rw [if_neg h10]
      refine Ev.no (byte_no (n := 10) h10) ?_
      by_cases h32 : c.toNat = 32
      · rw [if_pos (by simp [ws, h32])]
        exact Ev.yes (byte_yes (n := 32) h32) next
      refine Ev.no (byte_no (n := 32) h32) ?_
      by_cases h9 : c.toNat = 9
      · rw [if_pos (by simp [ws, h9])]
        exact Ev.yes (byte_yes (n := 9) h9) next
      refine Ev.no (byte_no (n := 9) h9) ?_
      by_cases h13 : c.toNat = 13
      · rw [if_pos (by simp [ws, h13])]
        exact Ev.yes (byte_yes (n := 13) h13) next
      refine Ev.no (byte_no (n := 13) h13) ?_
      rw [if_neg (by simp [ws, h32, h9, h13])]
      by_cases h35 : c.toNat = 35
      · rw [if_pos h35]
        refine Ev.yes (byte_yes (n := 35) h35) ?_
        have hle : (t.takeWhile nnl).length ≤ t.length := (List.takeWhile_sublist nnl).length_le
        have htl : t.length = l.length - i - 1 := by
          have := congrArg List.length hc
          rw [List.length_drop, List.length_cons] at this
          omega
        have hdw : l.drop (i + 1 + (t.takeWhile nnl).length) = t.dropWhile nnl := by
          rw [← List.drop_drop, ht]
          have := List.takeWhile_append_dropWhile (p := nnl) (l := t)
          conv => lhs; rw [← this]
          rw [List.drop_append_of_le_length (by rw [this]; exact Nat.le_refl _) |>.trans (by rw [this])] <;> simp
        have := ih (i + 1 + (t.takeWhile nnl).length) (by omega) (by omega) line b (by omega) (by omega)
        rw [hdw] at this
        have e1 : Int.ofNat (i + 1 + (t.takeWhile nnl).length) - Int.ofNat b + 1 = Int.ofNat i - Int.ofNat b + 1 + 1 + ((t.takeWhile nnl).length : Int) := by simp only [Int.ofNat_eq_natCast]; omega
        rw [e1] at this
        obtain ⟨K, hK⟩ := this
        refine ⟨K + l.length + 1, fun m k n h1 h2 h3 => ?_⟩
        refine L_comment l hl _ _ _ _ _ _ (Ak k) m n _ (l.length - i) i hi rfl ?_ m (by omega)
        rw [hc, List.takeWhile_cons_of_pos (by simp [nnl, h35]), List.length_cons]
        rw [show i + ((t.takeWhile nnl).length + 1) = i + 1 + (t.takeWhile nnl).length by omega]
        exact hK m k n (by omega) (by omega) (by omega)
      rw [if_neg h35]
      refine Ev.no (byte_no (n := 35) h35) ?_
      have hext : (bx l).extract (Int.toNat (Int.ofNat i)) (Int.toNat (Int.ofNat l.length)) = bx (c :: t) := by
        rw [ext_bx, ← hc]
        show bx ((l.take l.length).drop i) = _
        rw [List.take_length]
      simp only [q33_4_eq, bx_size, hext]
      refine Ev.yes (by simp only [Int.ofNat_eq_natCast, Bool.and_eq_true, decide_eq_true_eq]; omega) ?_
      have hone := C_one (c :: t) (by simp) (by rw [← hc, List.length_drop]; omega)
      cases htok : Lx.tok (c :: t) with
      | bad e w =>
        rw [htok] at hone
        refine v_t2a5ISIIIoI hone (Ev.yes (by simpa using tok_bad htok) (Ev.of fun m k n => ?_))
        rw [col_wrap i b hb (by omega)]
        rfl
      | ok κ w n =>
        rw [htok] at hone
        refine v_t2a5ISIIIoI hone (Ev.no rfl ?_)
        have hw := tok_take htok
        have hwl : 1 ≤ w.length := by
          cases w with
          | nil => exact absurd rfl hw.2
          | cons => simp
        have hwle : w.length ≤ (c :: t).length := by
          have := congrArg List.length hw.1
          rw [List.length_take] at this
          omega
        have htl : (c :: t).length = l.length - i := by rw [← hc, List.length_drop]
        have hdr : l.drop (i + w.length) = t.drop (w.length - 1) := by
          rw [← List.drop_drop, hc]
          cases w with
          | nil => exact absurd rfl hw.2
          | cons a w' => rfl
        simp only [q33_5_eq, bx_size, add_wrap i w.length (by omega), col_wrap i b hb (by omega : i ≤ 1000000)]
        show Ev _ (RV (tokOut [] (match scan (t.drop (w.length - 1)) (Int.ofNat line) (Int.ofNat i - Int.ofNat b + 1 + (w.length : Int)) with | .error f => .error f | .ok l => .ok (⟨κ, w, n, Int.ofNat line, Int.ofNat i - Int.ofNat b + 1⟩ :: l))))
        rw [tokOut_cons]
        have e1 : Int.ofNat (i + w.length) - Int.ofNat b + 1 = Int.ofNat i - Int.ofNat b + 1 + (w.length : Int) := by simp only [Int.ofNat_eq_natCast]; omega
        have := L_scan_v1 l hl x4 s5 x6 x7 (l.length + 1) (i + w.length) (by omega) (by omega) [⟨κ, w, n, Int.ofNat line, Int.ofNat i - Int.ofNat b + 1⟩] line b (by omega) (by omega) (by simp only [List.length_singleton]; omega)
        rw [hdr, e1] at this
        exact this
theorem C_tokens (l : List UInt8) : Cal 33 [V.one (X.d (D.str (bx l)))] [] (RV (if 20000 < l.length then V.tup [V.one (X.d (D.list 5 [])), V.agg [iX 2, sX [], iX 0, iX 0]] else tokOut [] (scan l 1 1))) := by
  refine call33 _ ?_
  simp only [e33_eq, bx_size]
  by_cases h : 20000 < l.length
  · rw [if_pos h]
    exact Ev.yes (decide_eq_true (by show (20000 : Int) < Int.ofNat l.length; simp only [Int.ofNat_eq_natCast]; omega)) (Ev.ret _)
  · rw [if_neg h]
    refine Ev.no (decide_eq_false (by show ¬ (20000 : Int) < Int.ofNat l.length; simp only [Int.ofNat_eq_natCast]; omega)) ?_
    simp only [q33_0_eq]
    have := fun (x4 : Int) (s5 : ByteArray) (x6 x7 : Int) => L_scan l (by omega) x4 s5 x6 x7 (l.length + 1) 0 (by omega) (by omega) 1 0 (by omega) (by omega)
    exact Ev.diag (this _ _ _ _)
end Go.Proofs.YtbmcafehpgimfaaGreat.Ps
namespace Go.Proofs.YtbmcafehpgimfaaGreat.Ps
set_option linter.unusedVariables false
set_option linter.unusedSimpArgs false
open Go Go.RowKit Px
open Lx (Tok)
open Pm (want kind)

def fnV (f : Fnc) : V := V.agg [X.d (D.str (bx f.name)), X.d (D.list 5 (Fld.rows f.params)), X.d (D.int IntKind.i64 f.res.k), X.d (D.list 2 (T.rows f.res.l)), X.d (D.int IntKind.i64 f.body.k), X.d (D.int IntKind.i64 f.body.n), X.d (D.str (bx f.body.name)), X.d (D.list 1 (strs f.body.names)), X.d (D.list 1 (ints f.body.odds)), X.d (D.list 8 (E.rows f.body.kids)), X.d (D.int IntKind.i64 f.body.line), X.d (D.int IntKind.i64 f.body.col), X.d (D.int IntKind.i64 f.line), X.d (D.int IntKind.i64 f.col)]
def pX (p : Pg) : List X := [X.d (D.list 5 (Fld.rows p.inputs)), X.d (D.list 14 (Fnc.rows p.funs)), X.d (D.int IntKind.i64 p.query.k), X.d (D.int IntKind.i64 p.query.n), X.d (D.str (bx p.query.name)), X.d (D.list 1 (strs p.query.names)), X.d (D.list 1 (ints p.query.odds)), X.d (D.list 8 (E.rows p.query.kids)), X.d (D.int IntKind.i64 p.query.line), X.d (D.int IntKind.i64 p.query.col)]
def pV (p : Pg) : V := V.agg (pX p)
theorem Fld.rows_app (a : List Fld) (b : Fld) : Fld.rows (a ++ [b]) = Fld.rows a ++ [[D.str (bx b.name), D.int IntKind.i64 b.typ.k, D.list 2 (T.rows b.typ.l), D.int IntKind.i64 b.line, D.int IntKind.i64 b.col]] := by
  unfold Fld.rows; rw [List.map_append]; rfl
theorem Fld.rows_len (a : List Fld) : (Fld.rows a).length = a.length := List.length_map ..
theorem Fld.rows_one (b : Fld) : Fld.rows [b] = [[D.str (bx b.name), D.int IntKind.i64 b.typ.k, D.list 2 (T.rows b.typ.l), D.int IntKind.i64 b.line, D.int IntKind.i64 b.col]] := rfl
theorem Fnc.row_eq (f : Fnc) : Fnc.row f = [D.str (bx f.name), D.list 5 (Fld.rows f.params), D.int IntKind.i64 f.res.k, D.list 2 (T.rows f.res.l), D.int IntKind.i64 f.body.k, D.int IntKind.i64 f.body.n, D.str (bx f.body.name), D.list 1 (strs f.body.names), D.list 1 (ints f.body.odds), D.list 8 (E.rows f.body.kids), D.int IntKind.i64 f.body.line, D.int IntKind.i64 f.body.col, D.int IntKind.i64 f.line, D.int IntKind.i64 f.col] := by
  unfold Fnc.row; rw [E.row_eq]; rfl
theorem Fnc.rows_app (a : List Fnc) (f : Fnc) : Fnc.rows (a ++ [f]) = Fnc.rows a ++ [[D.str (bx f.name), D.list 5 (Fld.rows f.params), D.int IntKind.i64 f.res.k, D.list 2 (T.rows f.res.l), D.int IntKind.i64 f.body.k, D.int IntKind.i64 f.body.n, D.str (bx f.body.name), D.list 1 (strs f.body.names), D.list 1 (ints f.body.odds), D.list 8 (E.rows f.body.kids), D.int IntKind.i64 f.body.line, D.int IntKind.i64 f.body.col, D.int IntKind.i64 f.line, D.int IntKind.i64 f.col]] := by
  unfold Fnc.rows; rw [List.map_append, List.map_singleton, Fnc.row_eq]
theorem Fnc.rows_len (a : List Fnc) : (Fnc.rows a).length = a.length := List.length_map ..
section
variable {l : List Tok}
theorem S_Fn {α : Type} {enc : α → V} {f : FuncId} {args : List V} {rows : List (List Lf × List X)} {r : Rs Fnc} {g : Fnc → Nat → Rs α} {K : Nat → Nat → Nat → ByteArray → List (List D) → Int → List (List D) → Int → Int → ByteArray → List (List D) → List (List D) → List (List D) → Int → Int → Int → Int → List (List D) → Int → Option Out} {Q : Nat → Nat → Nat → D → List (List D) → Int → Option Out}
    (h : Sim l fnV (fun _ k _ => Ak k false f args rows) r) (hp : PanOn Q)
    (hy : ∀ a j, r = .ok a j → Sim l enc (fun m k n => K m k n (bx a.name) (Fld.rows a.params) a.res.k (T.rows a.res.l) a.body.k a.body.n (bx a.body.name) (strs a.body.names) (ints a.body.odds) (E.rows a.body.kids) a.body.line a.body.col a.line a.col (toks l) (Int.ofNat j)) (g a j)) :
    Sim l enc (fun m k n => r_a14SL5IL2IISL1L1L8IIII_L5I (Ak k false f args rows) (K m k n) (Q m k n)) (thenR r g) := by
  cases r with
  | ok a j => exact fun hr => v_a14SL5IL2IISL1L1L8IIII_L5I (h (fun q => by cases q)) (hy a j rfl hr)
  | no j => exact fun hr => u_a14SL5IL2IISL1L1L8IIII_L5I (h (fun q => by cases q)) (Ev.of fun m k n => hp m k n _ _ _)
  | out => exact fun hr => absurd rfl hr
theorem types_ok (hl : Few l) (i : Nat) (hi : i < l.length) : Sim l tV (fun _ k _ => Ak k false 61 [V.one (X.ptr 0 0)] (rds l i)) (pw l .typ i) := (typ_ok hl _ i hi (Nat.lt_succ_self _)).1
theorem field_ok (hl : Few l) (i : Nat) (hi : i < l.length) : Sim l fV (fun _ k _ => Ak k false 38 [V.one (X.ptr 0 0)] (rds l i)) (pw l .field i) := by
  have g := hl.good
  rw [pw_eq g _ i hi]
  refine fun hr => call38 _ _ ((?_ : Sim l fV (fun _ k n => e38 (Ak k) n (toks l) (Int.ofNat i)) (run (pw l) l (body .field) i)) hr)
  clear hr
  simp only [e38_eq]
  refine S_kind hl.len hi 1 (fun _ _ _ _ _ _ => rfl) fun h => ?_
  have h1 := nxk g hi h (by decide)
  refine S_want hl.len h1 wCl (fun _ _ _ _ _ _ => rfl) fun h => ?_
  have h2 := nx g h1 h
  refine Eq.subst (motive := fun r => Sim l fV _ r) (run_call _ _ _).symm ?_
  exact S_T (types_ok hl _ h2) (fun _ _ _ _ _ _ => rfl) fun a j hj => Sim.ret fun _ _ _ => rfl
theorem is_step {α : Type} {enc : α → V} (hl : Few l) {i : Nat} (hi : i < l.length) (s : List UInt8) {K : Nat → Nat → Nat → Bool → List (List D) → Int → Option Out} {Q : Nat → Nat → Nat → D → List (List D) → Int → Option Out} {r : Rs α}
    (h : Sim l enc (fun m k n => K m k n (isT s (tk l i)) (toks l) (Int.ofNat i)) r) :
    Sim l enc (fun m k n => r_oB_L5I (Ak k false 60 [V.one (X.ptr 0 0), V.one (X.d (D.str (bx s)))] (rds l i)) (K m k n) (Q m k n)) r := fun hr => v_oB_L5I (C_is hi s) (h hr)
def heads (t : Tok) (ps : List Fld) : Pm Fnc := want wRp (funRest t ps)
theorem head_ok (hl : Few l) (hn : Nums l) (i : Nat) (hi : i < l.length) (t : Tok) (ps : List Fld) (z' : List (List D)) (z3 : Int) (s2 : ByteArray) (x3 x4 x5 : Int) (s6 : ByteArray) (x7 x8 x9 x10 x13 x14 x15 : Int) (s16 : ByteArray) (x17 x18 : Int) :
    Sim l fnV (fun _ k n => q40_1_v1 (Ak k) n z' z3 (toks l) (Int.ofNat i) s2 x3 x4 x5 s6 x7 x8 x9 x10 (bx t.text) (Fld.rows ps) x13 x14 x15 s16 x17 x18 t.line t.col) (run (pw l) l (heads t ps) i) := by
  have g := hl.good
  simp only [q40_1_v1_eq]
  unfold heads funRest
  refine S_want hl.len hi wRp (fun _ _ _ _ _ _ => rfl) fun h => ?_
  have h1 := nx g hi h
  refine S_want hl.len h1 wCl (fun _ _ _ _ _ _ => rfl) fun h => ?_
  have h2 := nx g h1 h
  refine Eq.subst (motive := fun r => Sim l fnV _ r) (run_call _ _ _).symm ?_
  refine S_T (types_ok hl _ h2) (fun _ _ _ _ _ _ => rfl) fun a j hj => ?_
  have hf := pw_ok g h2 hj
  refine S_want hl.len hf.2 wEq (fun _ _ _ _ _ _ => rfl) fun h => ?_
  have h3 := nx g hf.2 h
  refine Eq.subst (motive := fun r => Sim l fnV _ r) (run_call _ _ _).symm ?_
  refine S_E (exprs_ok hl hn _ h3) (fun _ _ _ _ _ _ => rfl) fun b j2 hj2 => ?_
  have hf2 := pw_ok g h3 hj2
  refine S_want hl.len hf2.2 wSc (fun _ _ _ _ _ _ => rfl) fun h => ?_
  exact Sim.ret (P := pw l) fun _ _ _ => rfl
theorem head0_eq (Γ : Bool → SemL) (n1 : Nat) (z2 : List (List D)) (z3 : Int) (r0 : List (List D)) (x1 : Int) (s2 : ByteArray) (x3 x4 x5 : Int) (s6 : ByteArray) (x7 x8 x9 x10 : Int) (s11 : ByteArray) (x12 x13 x14 : Int) (s15 : ByteArray) (x16 x17 x18 x19 : Int) :
    q40_1 Γ n1 z2 z3 r0 x1 s2 x3 x4 x5 s6 x7 x8 x9 x10 s11 x12 x13 x14 s15 x16 x17 x18 x19 = q40_1_v1 Γ n1 z2 z3 r0 x1 s2 x3 x4 x5 s6 x7 x8 x9 x10 s11 [] x12 x13 x14 s15 x16 x17 x18 x19 := by
  rw [q40_1_eq, q40_1_v1_eq]
theorem params_ok (hl : Few l) (hn : Nums l) (t : Tok) (z' : List (List D)) (z3 : Int) (s2 : ByteArray) (x3 x4 x5 : Int) (s6 : ByteArray) (x7 x8 x9 x10 x13 x14 x15 : Int) (s16 : ByteArray) (x17 x18 : Int) : ∀ (d i : Nat), i < l.length → l.length - i ≤ d → ∀ acc : List Fld, acc.length ≤ i →
    Sim l fnV (fun m k n => l40_0 m (Ak k) n z' z3 (toks l) (Int.ofNat i) s2 x3 x4 x5 s6 x7 x8 x9 x10 (bx t.text) (Fld.rows acc) x13 x14 x15 s16 x17 x18 t.line t.col) (run (pw l) l (.call .fields fun r => funRest t (acc ++ r)) i)
  | 0, i, hi, h, _, _ => by omega
  | d + 1, i, hi, h, acc, ha => by
    have g := hl.good
    rw [run_open g _ _ i hi]
    refine Sim.step ?_
    simp only [l40_0_eq]
    refine S_take hl.len hi wCm (fun h => Sim.yes rfl ?_) (fun h => Sim.no rfl ?_)
    · have h1 := nx g hi h
      simp only [q40_0_eq]
      refine Eq.subst (motive := fun r => Sim l fnV _ r) (run_call _ _ _).symm ?_
      refine S_F (field_ok hl _ h1) (fun _ _ _ _ _ _ => rfl) fun a j hj => ?_
      have hf := pw_ok g h1 hj
      refine Sim.yes (by rw [Fld.rows_len]; exact roomy _ _ (by have := hl.len; omega) (by omega)) ?_
      rw [← Fld.rows_app]
      have := params_ok hl hn t z' z3 s2 x3 x4 x5 s6 x7 x8 x9 x10 x13 x14 x15 s16 x17 x18 d j hf.2 (by omega) (acc ++ [a]) (by rw [List.length_append, List.length_singleton]; omega)
      simp only [List.append_assoc, List.singleton_append] at this
      exact this
    · have := head_ok hl hn i hi t acc z' z3 s2 x3 x4 x5 s6 x7 x8 x9 x10 x13 x14 x15 s16 x17 x18
      unfold heads at this
      show Sim l fnV _ (run (pw l) l (want wRp (funRest t (acc ++ []))) i)
      rw [List.append_nil]
      exact this
theorem fun_ok (hl : Few l) (hn : Nums l) (i : Nat) (hi : i < l.length) : Sim l fnV (fun _ k _ => Ak k false 40 [V.one (X.ptr 0 0)] (rds l i)) (pw l .fun_ i) := by
  have g := hl.good
  rw [pw_eq g _ i hi]
  refine fun hr => call40 _ _ ((?_ : Sim l fnV (fun _ k n => e40 (Ak k) n (toks l) (Int.ofNat i)) (run (pw l) l (body .fun_) i)) hr)
  clear hr
  simp only [e40_eq]
  refine S_kind hl.len hi 1 (fun _ _ _ _ _ _ => rfl) fun h => ?_
  have h1 := nxk g hi h (by decide)
  refine S_want hl.len h1 wLp (fun _ _ _ _ _ _ => rfl) fun h => ?_
  have h2 := nx g h1 h
  refine is_step hl h2 wRp ?_
  cases h : isT wRp (tk l (i + 1 + 1)) with
  | true =>
    refine Sim.no rfl ?_
    have e1 : run (pw l) l (Pm.take wRp (funRest (tk l i) []) (.call .field fun a => .call .fields fun r => funRest (tk l i) (a :: r))) (i + 1 + 1) = run (pw l) l (heads (tk l i) []) (i + 1 + 1) := by
      unfold heads
      rw [run, run, h]
      rfl
    refine Eq.subst (motive := fun r => Sim l fnV _ r) e1.symm ?_
    simp only [head0_eq]
    exact head_ok hl hn _ h2 (tk l i) [] _ _ _ _ _ _ _ _ _ _ _ _ _ _ _ _ _
  | false =>
    refine Sim.yes rfl ?_
    have e1 : run (pw l) l (Pm.take wRp (funRest (tk l i) []) (.call .field fun a => .call .fields fun r => funRest (tk l i) (a :: r))) (i + 1 + 1) = run (pw l) l (.call .field fun a => .call .fields fun r => funRest (tk l i) (a :: r)) (i + 1 + 1) := by
      rw [run, h]
      rfl
    refine Eq.subst (motive := fun r => Sim l fnV _ r) e1.symm ?_
    rw [run_call]
    refine S_F (field_ok hl _ h2) (fun _ _ _ _ _ _ => rfl) fun a j hj => ?_
    have hf := pw_ok g h2 hj
    rw [← Fld.rows_one]
    exact Sim.diag (params_ok hl hn (tk l i) _ _ _ _ _ _ _ _ _ _ _ _ _ _ _ _ _ _ j hf.2 (Nat.le_refl _) [a] (by simp only [List.length_cons, List.length_nil]; omega))

abbrev prog2 (ins : List Fld) (fs : List Fnc) : Pm Pg := .call .expr fun q => .ret ⟨ins, fs, q⟩
theorem funs3_ok (hl : Few l) (hn : Nums l) (ins : List Fld) (z' : List (List D)) (z3 x2 x3 : Int) (s4 : ByteArray) (x5 x6 x8 x9 : Int) (s10 : ByteArray) (x11 x12 : Int) : ∀ (d i : Nat), i < l.length → l.length - i ≤ d → ∀ fs : List Fnc, fs.length ≤ i →
    Sim l pV (fun m k n => l13_1_v3 m (Ak k) n z' z3 (toks l) (Int.ofNat i) x2 x3 s4 x5 x6 (Fld.rows ins) (Fnc.rows fs) x8 x9 s10 x11 x12) (run (pw l) l (.call .funs fun b => prog2 ins (fs ++ b)) i)
  | 0, i, hi, h, _, _ => by omega
  | d + 1, i, hi, h, fs, ha => by
    have g := hl.good
    rw [run_open g _ _ i hi]
    refine Sim.step ?_
    simp only [l13_1_v3_eq]
    refine S_take hl.len hi wFun (fun h => Sim.yes rfl ?_) (fun h => Sim.no rfl ?_)
    · have h1 := nx g hi h
      simp only [q13_2_v3_eq]
      refine Eq.subst (motive := fun r => Sim l pV _ r) (run_call _ _ _).symm ?_
      refine S_Fn (fun_ok hl hn _ h1) (fun _ _ _ _ _ _ => rfl) fun a j hj => ?_
      have hf := pw_ok g h1 hj
      refine Sim.yes (by rw [Fnc.rows_len]; exact roomy _ _ (by have := hl.len; omega) (by omega)) ?_
      rw [← Fnc.rows_app]
      have := funs3_ok hl hn ins z' z3 x2 x3 s4 x5 x6 x8 x9 s10 x11 x12 d j hf.2 (by omega) (fs ++ [a]) (by rw [List.length_append, List.length_singleton]; omega)
      simp only [List.append_assoc, List.singleton_append] at this
      exact this
    · simp only [q13_3_v3_eq]
      show Sim l pV _ (run (pw l) l (prog2 ins (fs ++ [])) i)
      rw [List.append_nil]
      refine Eq.subst (motive := fun r => Sim l pV _ r) (run_call _ _ _).symm ?_
      exact S_E (exprs_ok hl hn _ hi) (fun _ _ _ _ _ _ => rfl) fun b j2 hj2 => Sim.ret fun _ _ _ => rfl
theorem funs2_ok (hl : Few l) (hn : Nums l) (ins : List Fld) (z' : List (List D)) (z3 x2 x3 : Int) (s4 : ByteArray) (x5 x6 x8 x9 : Int) (s10 : ByteArray) (x11 x12 : Int) : ∀ (d i : Nat), i < l.length → l.length - i ≤ d → ∀ fs : List Fnc, fs.length ≤ i →
    Sim l pV (fun m k n => l13_1_v2 m (Ak k) n z' z3 (toks l) (Int.ofNat i) x2 x3 s4 x5 x6 (Fnc.rows fs) x8 x9 s10 x11 x12) (run (pw l) l (.call .funs fun b => prog2 [] (fs ++ b)) i)
  | 0, i, hi, h, _, _ => by omega
  | d + 1, i, hi, h, fs, ha => by
    have g := hl.good
    rw [run_open g _ _ i hi]
    refine Sim.step ?_
    simp only [l13_1_v2_eq]
    refine S_take hl.len hi wFun (fun h => Sim.yes rfl ?_) (fun h => Sim.no rfl ?_)
    · have h1 := nx g hi h
      simp only [q13_2_v2_eq]
      refine Eq.subst (motive := fun r => Sim l pV _ r) (run_call _ _ _).symm ?_
      refine S_Fn (fun_ok hl hn _ h1) (fun _ _ _ _ _ _ => rfl) fun a j hj => ?_
      have hf := pw_ok g h1 hj
      refine Sim.yes (by rw [Fnc.rows_len]; exact roomy _ _ (by have := hl.len; omega) (by omega)) ?_
      rw [← Fnc.rows_app]
      have := funs2_ok hl hn ins z' z3 x2 x3 s4 x5 x6 x8 x9 s10 x11 x12 d j hf.2 (by omega) (fs ++ [a]) (by rw [List.length_append, List.length_singleton]; omega)
      simp only [List.append_assoc, List.singleton_append] at this
      exact this
    · simp only [q13_3_v2_eq]
      show Sim l pV _ (run (pw l) l (prog2 [] (fs ++ [])) i)
      rw [List.append_nil]
      refine Eq.subst (motive := fun r => Sim l pV _ r) (run_call _ _ _).symm ?_
      exact S_E (exprs_ok hl hn _ hi) (fun _ _ _ _ _ _ => rfl) fun b j2 hj2 => Sim.ret fun _ _ _ => rfl
theorem funs1_ok (hl : Few l) (hn : Nums l) (ins : List Fld) (z' : List (List D)) (z3 x2 x3 : Int) (s4 : ByteArray) (x5 x6 x8 x9 : Int) (s10 : ByteArray) (x11 x12 : Int) (i : Nat) (hi : i < l.length) :
    Sim l pV (fun m k n => l13_1_v1 m (Ak k) n z' z3 (toks l) (Int.ofNat i) x2 x3 s4 x5 x6 (Fld.rows ins) x8 x9 s10 x11 x12) (run (pw l) l (.call .funs fun b => prog2 ins b) i) := by
  have g := hl.good
  rw [run_open g _ _ i hi]
  refine Sim.step ?_
  simp only [l13_1_v1_eq]
  refine S_take hl.len hi wFun (fun h => Sim.yes rfl ?_) (fun h => Sim.no rfl ?_)
  · have h1 := nx g hi h
    simp only [q13_2_v1_eq]
    refine Eq.subst (motive := fun r => Sim l pV _ r) (run_call _ _ _).symm ?_
    refine S_Fn (fun_ok hl hn _ h1) (fun _ _ _ _ _ _ => rfl) fun a j hj => ?_
    have hf := pw_ok g h1 hj
    have e1 := (Fnc.rows_app [] a).symm
    rw [show Fnc.rows [] = [] from rfl, List.nil_append, List.nil_append] at e1
    rw [e1]
    exact funs3_ok hl hn ins z' z3 x2 x3 s4 x5 x6 x8 x9 s10 x11 x12 _ j hf.2 (Nat.le_refl _) [a] (by simp only [List.length_cons, List.length_nil]; omega)
  · simp only [q13_3_v1_eq]
    refine Eq.subst (motive := fun r => Sim l pV _ r) (run_call _ _ _).symm ?_
    exact S_E (exprs_ok hl hn _ hi) (fun _ _ _ _ _ _ => rfl) fun b j2 hj2 => Sim.ret fun _ _ _ => rfl
theorem funs0_ok (hl : Few l) (hn : Nums l) (ins : List Fld) (z' : List (List D)) (z3 x2 x3 : Int) (s4 : ByteArray) (x5 x6 x8 x9 : Int) (s10 : ByteArray) (x11 x12 : Int) (i : Nat) (hi : i < l.length) :
    Sim l pV (fun m k n => l13_1 m (Ak k) n z' z3 (toks l) (Int.ofNat i) x2 x3 s4 x5 x6 x8 x9 s10 x11 x12) (run (pw l) l (.call .funs fun b => prog2 [] b) i) := by
  have g := hl.good
  rw [run_open g _ _ i hi]
  refine Sim.step ?_
  simp only [l13_1_eq]
  refine S_take hl.len hi wFun (fun h => Sim.yes rfl ?_) (fun h => Sim.no rfl ?_)
  · have h1 := nx g hi h
    simp only [q13_2_eq]
    refine Eq.subst (motive := fun r => Sim l pV _ r) (run_call _ _ _).symm ?_
    refine S_Fn (fun_ok hl hn _ h1) (fun _ _ _ _ _ _ => rfl) fun a j hj => ?_
    have hf := pw_ok g h1 hj
    have e1 := (Fnc.rows_app [] a).symm
    rw [show Fnc.rows [] = [] from rfl, List.nil_append, List.nil_append] at e1
    rw [e1]
    exact funs2_ok hl hn ins z' z3 x2 x3 s4 x5 x6 x8 x9 s10 x11 x12 _ j hf.2 (Nat.le_refl _) [a] (by simp only [List.length_cons, List.length_nil]; omega)
  · simp only [q13_3_eq]
    refine Eq.subst (motive := fun r => Sim l pV _ r) (run_call _ _ _).symm ?_
    exact S_E (exprs_ok hl hn _ hi) (fun _ _ _ _ _ _ => rfl) fun b j2 hj2 => Sim.ret fun _ _ _ => rfl
theorem inputs_ok (hl : Few l) (hn : Nums l) (z' : List (List D)) (z3 x2 x3 : Int) (s4 : ByteArray) (x5 x6 x8 x9 : Int) (s10 : ByteArray) (x11 x12 : Int) : ∀ (d i : Nat), i < l.length → l.length - i ≤ d → ∀ ins : List Fld, ins.length ≤ i →
    Sim l pV (fun m k n => l13_0_v1 m (Ak k) n z' z3 (toks l) (Int.ofNat i) x2 x3 s4 x5 x6 (Fld.rows ins) x8 x9 s10 x11 x12) (run (pw l) l (.call .inputs fun a => .call .funs fun b => prog2 (ins ++ a) b) i)
  | 0, i, hi, h, _, _ => by omega
  | d + 1, i, hi, h, ins, ha => by
    have g := hl.good
    rw [run_open g _ _ i hi]
    refine Sim.step ?_
    simp only [l13_0_v1_eq]
    refine S_take hl.len hi wInput (fun h => Sim.yes rfl ?_) (fun h => Sim.no rfl ?_)
    · have h1 := nx g hi h
      simp only [q13_0_v1_eq]
      refine Eq.subst (motive := fun r => Sim l pV _ r) (run_call _ _ _).symm ?_
      refine S_F (field_ok hl _ h1) (fun _ _ _ _ _ _ => rfl) fun a j hj => ?_
      have hf := pw_ok g h1 hj
      refine Sim.yes (by rw [Fld.rows_len]; exact roomy _ _ (by have := hl.len; omega) (by omega)) ?_
      refine S_want hl.len hf.2 wSc (fun _ _ _ _ _ _ => rfl) fun h => ?_
      have h2 := nx g hf.2 h
      rw [← Fld.rows_app]
      have := inputs_ok hl hn z' z3 x2 x3 s4 x5 x6 x8 x9 s10 x11 x12 d (j + 1) h2 (by omega) (ins ++ [a]) (by rw [List.length_append, List.length_singleton]; omega)
      simp only [List.append_assoc, List.singleton_append] at this
      exact this
    · simp only [q13_1_v1_eq]
      show Sim l pV _ (run (pw l) l (.call .funs fun b => prog2 (ins ++ []) b) i)
      rw [List.append_nil]
      exact Sim.diag (funs1_ok hl hn ins z' z3 x2 x3 s4 x5 x6 x8 x9 s10 x11 x12 i hi)
theorem program_ok (hl : Few l) (hn : Nums l) (i : Nat) (hi : i < l.length) : Sim l pV (fun _ k _ => Ak k false 13 [V.one (X.ptr 0 0)] (rds l i)) (pw l .program i) := by
  have g := hl.good
  rw [pw_eq g _ i hi]
  refine fun hr => call13 _ _ ((?_ : Sim l pV (fun _ k n => e13 (Ak k) n (toks l) (Int.ofNat i)) (run (pw l) l (body .program) i)) hr)
  clear hr
  simp only [e13_eq]
  show Sim l pV _ (run (pw l) l (.call .inputs fun a => .call .funs fun b => prog2 a b) i)
  rw [run_open g _ _ i hi]
  refine Sim.diag (F := fun m k n => l13_0 m (Ak k) n (toks l) (Int.ofNat i) (toks l) (Int.ofNat i) 0 0 (ByteArray.mk #[]) 0 0 0 0 (ByteArray.mk #[]) 0 0) (Sim.step ?_)
  simp only [l13_0_eq]
  refine S_take hl.len hi wInput (fun h => Sim.yes rfl ?_) (fun h => Sim.no rfl ?_)
  · have h1 := nx g hi h
    simp only [q13_0_eq]
    refine Eq.subst (motive := fun r => Sim l pV _ r) (run_call _ _ _).symm ?_
    refine S_F (field_ok hl _ h1) (fun _ _ _ _ _ _ => rfl) fun a j hj => ?_
    have hf := pw_ok g h1 hj
    refine S_want hl.len hf.2 wSc (fun _ _ _ _ _ _ => rfl) fun h => ?_
    have h2 := nx g hf.2 h
    rw [← Fld.rows_one]
    exact inputs_ok hl hn _ _ _ _ _ _ _ _ _ _ _ _ _ (j + 1) h2 (Nat.le_refl _) [a] (by simp only [List.length_cons, List.length_nil]; omega)
  · simp only [q13_1_eq]
    exact Sim.diag (funs0_ok hl hn [] _ _ _ _ _ _ _ _ _ _ _ _ i hi)
end
end Go.Proofs.YtbmcafehpgimfaaGreat.Ps
namespace Go.Proofs.YtbmcafehpgimfaaGreat.Ps
set_option linter.unusedVariables false
set_option linter.unusedSimpArgs false
open Go Go.RowKit Px
open Lx (Tok tok scan sm dg nm sgn val isWord ws nnl Flt)

theorem tok_kind {l : List UInt8} {k : Int} {w : List UInt8} {n : Int} (h : Lx.tok l = .ok k w n) : k ≠ 5 ∧ k ≠ 0 ∧ 0 ≤ n ∧ n ≤ 2147483647 := by
  unfold Lx.tok at h
  split at h
  · split at h
    · cases h
    · split at h <;> (cases h; decide)
  · split at h
    · split at h
      · cases h
      · rename_i h2
        cases h
        exact ⟨by decide, by decide, by omega, by omega⟩
    · split at h
      · cases h
      · cases h; decide
structure TokL (n : Nat) (l : List Tok) : Prop where
  few : l.length ≤ n + 1
  pos : 0 < l.length
  last : ∀ i, i < l.length → ((tk l i).kind = 5 ↔ i + 1 = l.length)
  nums : ∀ t ∈ l, 0 ≤ t.n ∧ t.n ≤ 2147483647
theorem tk_succ (t : Tok) (l : List Tok) (i : Nat) : tk (t :: l) (i + 1) = tk l i := rfl
theorem TokL.cons {n : Nat} {l : List Tok} (h : TokL n l) {t : Tok} (h1 : t.kind ≠ 5) (h2 : 0 ≤ t.n ∧ t.n ≤ 2147483647) : TokL (n + 1) (t :: l) where
  few := by have := h.few; rw [List.length_cons]; omega
  pos := by simp
  last := fun i hi => by
    cases i with
    | zero =>
      have := h.pos
      rw [List.length_cons]
      show t.kind = 5 ↔ _
      exact ⟨fun e => absurd e h1, fun e => by omega⟩
    | succ i =>
      rw [tk_succ]
      rw [List.length_cons] at hi ⊢
      rw [h.last i (by omega)]
      omega
  nums := fun x hx => by
    rcases List.mem_cons.1 hx with rfl | hx
    · exact h2
    · exact h.nums x hx
theorem TokL.mono {n m : Nat} {l : List Tok} (h : TokL n l) (hm : n ≤ m) : TokL m l := ⟨by have := h.few; omega, h.pos, h.last, h.nums⟩
theorem scan_tokl : ∀ (d : Nat) (l : List UInt8) (line col : Int) (r : List Tok), l.length < d → scan l line col = .ok r → TokL l.length r
  | 0, l, _, _, _, h, _ => by omega
  | d + 1, [], line, col, r, hd, h => by
    rw [scan] at h
    cases h
    exact ⟨by simp, by simp, fun i hi => by
      have : i = 0 := by simpa using hi
      subst this
      exact ⟨fun _ => rfl, fun _ => rfl⟩, fun t ht => by
      rw [List.mem_singleton.1 ht]
      exact ⟨Int.le_refl 0, (by decide : (0 : Int) ≤ 2147483647)⟩⟩
  | d + 1, c :: t, line, col, r, hd, h => by
    rw [List.length_cons] at hd
    rw [scan] at h
    split at h
    · exact (scan_tokl d t _ _ r (by omega) h).mono (by simp)
    split at h
    · exact (scan_tokl d t _ _ r (by omega) h).mono (by simp)
    split at h
    · have := (List.dropWhile_sublist (p := nnl) (l := t)).length_le
      exact (scan_tokl d _ _ _ r (by omega) h).mono (by rw [List.length_cons]; omega)
    cases ht : Lx.tok (c :: t) with
    | bad e w => rw [ht] at h; cases h
    | ok k w n =>
      rw [ht] at h
      simp only at h
      cases hs : scan (t.drop (w.length - 1)) line (col + w.length) with
      | error f => rw [hs] at h; cases h
      | ok l' =>
        rw [hs] at h
        cases h
        have h1 := scan_tokl d _ _ _ l' (by rw [List.length_drop]; omega) hs
        have hk := tok_kind ht
        exact (h1.cons (t := ⟨k, w, n, line, col⟩) hk.1 hk.2.2).mono (by rw [List.length_drop, List.length_cons]; omega)
theorem scan_bad : ∀ (d : Nat) (l : List UInt8) (line col : Int) (g : Flt), l.length < d → scan l line col = .error g → g.e ≠ 0
  | 0, l, _, _, _, h, _ => by omega
  | d + 1, [], line, col, r, hd, h => by rw [scan] at h; cases h
  | d + 1, c :: t, line, col, g, hd, h => by
    rw [List.length_cons] at hd
    rw [scan] at h
    split at h
    · exact scan_bad d t _ _ g (by omega) h
    split at h
    · exact scan_bad d t _ _ g (by omega) h
    split at h
    · have := (List.dropWhile_sublist (p := nnl) (l := t)).length_le
      exact scan_bad d _ _ _ g (by omega) h
    cases ht : Lx.tok (c :: t) with
    | bad e w =>
      rw [ht] at h
      cases h
      exact tok_bad ht
    | ok k w n =>
      rw [ht] at h
      simp only at h
      cases hs : scan (t.drop (w.length - 1)) line (col + w.length) with
      | error f =>
        rw [hs] at h
        cases h
        exact scan_bad d _ _ _ g (by rw [List.length_drop]; omega) hs
      | ok l' => rw [hs] at h; cases h
theorem scan_few {l : List UInt8} {r : List Tok} (hl : l.length ≤ 20000) (h : scan l 1 1 = .ok r) : Few r ∧ Nums r ∧ 0 < r.length := by
  have := scan_tokl _ l 1 1 r (Nat.lt_succ_self _) h
  refine ⟨⟨⟨this.last⟩, by have := this.few; omega⟩, fun i => ?_, this.pos⟩
  by_cases hi : i < r.length
  · have e : tk r i = r[i] := by unfold tk; rw [List.getD_eq_getElem?_getD, List.getElem?_eq_getElem hi]; rfl
    rw [e]
    exact this.nums _ (List.getElem_mem hi)
  · have e : tk r i = ⟨0, [], 0, 0, 0⟩ := by unfold tk; rw [List.getD_eq_getElem?_getD, List.getElem?_eq_none (by omega)]; rfl
    rw [e]
    exact ⟨by decide, by decide⟩

abbrev EXl : List Lf := [Lf.int IntKind.i64, Lf.int IntKind.i64, Lf.str, Lf.lst 1, Lf.lst 1, Lf.lst 8, Lf.int IntKind.i64, Lf.int IntKind.i64]
def eX (e : E) : List X := [X.d (D.int IntKind.i64 e.k), X.d (D.int IntKind.i64 e.n), X.d (D.str (bx e.name)), X.d (D.list 1 (strs e.names)), X.d (D.list 1 (ints e.odds)), X.d (D.list 8 (E.rows e.kids)), X.d (D.int IntKind.i64 e.line), X.d (D.int IntKind.i64 e.col)]
def noE : E := .mk 0 0 [] [] [] [] 0 0
def tokF (t : Tok) : Flt := ⟨11, t.text, t.line, t.col⟩
def wholeE (l : List Tok) : Rs E := run (pw l) l (.call .expr fun e => .knd 5 (.ret e) .fail) 0
def ReadOut (s : List UInt8) (f : List X) (e : E) : Prop :=
  if 20000 < s.length then f = [iX 2, sX [], iX 0, iX 0] ∧ e = noE else
  match scan s 1 1 with
  | .error g => f = fltX g ∧ e = noE
  | .ok l => match wholeE l with
    | .ok a _ => f = fine ∧ e = a
    | .no j => f = fltX (tokF (tk l j))
    | .out => False
end Go.Proofs.YtbmcafehpgimfaaGreat.Ps
namespace Go.Proofs.YtbmcafehpgimfaaGreat.Px
set_option linter.unusedVariables false
set_option linter.unusedSimpArgs false
mutual
def deepE : E → Nat → Option E
  | e, 0 => some e
  | .mk _ _ _ _ _ ks _ _, n + 1 => deepEs ks n
def deepEs : List E → Nat → Option E
  | [], _ => none
  | x :: r, n => match deepE x n with
    | some y => some y
    | none => deepEs r n
end
def big (a b : Int) : Int := if a < b then b else a
mutual
def deepT : T → Int
  | .mk _ l => IntKind.wrap .i64 (deepTs l 0 + 1)
def deepTs : List T → Int → Int
  | [], a => a
  | x :: r, a => deepTs r (big a (deepT x))
end
theorem deepE_zero (e : E) : deepE e 0 = some e := by cases e; rw [deepE]
theorem deepE_succ (e : E) (n : Nat) : deepE e (n + 1) = deepEs e.kids n := by cases e; rw [deepE]; rfl
theorem deepT_eq (t : T) : deepT t = IntKind.wrap .i64 (deepTs t.l 0 + 1) := by cases t; rw [deepT]; rfl
def limE (e : E) : Option (Int × Int) := (deepE e 40).map fun x => (x.line, x.col)
def limT (t : T) (a b : Int) : Option (Int × Int) := if 40 < deepT t then some (a, b) else none
def limFs : List Fld → Option (Int × Int)
  | [] => none
  | f :: r => match limT f.typ f.line f.col with
    | some x => some x
    | none => limFs r
def limFn (f : Fnc) : Option (Int × Int) := match limFs f.params with
  | some x => some x
  | none => match limT f.res f.line f.col with
    | some x => some x
    | none => limE f.body
def limFns : List Fnc → Option (Int × Int)
  | [] => none
  | f :: r => match limFn f with
    | some x => some x
    | none => limFns r
def limP (p : Pg) : Option (Int × Int) := match limFs p.inputs with
  | some x => some x
  | none => match limFns p.funs with
    | some x => some x
    | none => limE p.query
end Go.Proofs.YtbmcafehpgimfaaGreat.Px
namespace Go.Proofs.YtbmcafehpgimfaaGreat.Ps
set_option linter.unusedVariables false
open Go Go.RowKit Px
open Lx (Tok)

def deepV : Option E → V
  | some e => V.tup [eV e, V.one (bX true)]
  | none => V.tup [eV noE, V.one (bX false)]
def limX : Option (Int × Int) → List X
  | none => fine
  | some (a, b) => [iX 2, sX [], iX a, iX b]
theorem E.rows_at (ks : List E) (i : Nat) (h : i < ks.length) : (E.rows ks).getD i [] = E.row ks[i] := by
  have : Inhabited E := ⟨noE⟩
  rw [E.rows_map, rows_getD _ _ _ h, List.getD_eq_getElem?_getD, List.getElem?_eq_getElem h]
  rfl
theorem T.rows_at (ks : List T) (i : Nat) (h : i < ks.length) : (T.rows ks).getD i [] = T.row ks[i] := by
  have : Inhabited T := ⟨.mk 0 []⟩
  rw [T.rows_map, rows_getD _ _ _ h, List.getD_eq_getElem?_getD, List.getElem?_eq_getElem h]
  rfl
theorem L_deep (ks : List E) (hk : ks.length < 9223372036854775807) (n : Nat) (hn : n ≤ 40) (H : ∀ x ∈ ks, Cal 57 [eV x, nV (Int.ofNat n)] [] (RV (deepV (deepE x n)))) (x4 x5 : Int) (s6 : ByteArray) (x7 x8 : Int) : ∀ (d i : Nat), i ≤ ks.length → ks.length - i = d →
    Ev (fun m k z => l57_0 m (Ak k) z (Int.ofNat n + 1) (E.rows ks) (Int.ofNat ks.length) (Int.ofNat i) x4 x5 s6 x7 x8) (RV (deepV (deepEs (ks.drop i) n))) := by
  intro d
  induction d with
  | zero =>
    intro i hi hd
    rw [List.drop_eq_nil_of_le (by omega), deepEs]
    refine Ev.step ?_
    simp only [l57_0_eq]
    refine Ev.no (lt_no i _ (by omega)) ?_
    simp only [q57_3_eq]
    refine Ev.of fun m k z => ?_
    unfold deepV eV noE
    simp only [E.rows_nil, E.kids]
    rfl
  | succ d ih =>
    intro i hi hd
    have hlt : i < ks.length := by omega
    have hat := E.rows_at ks i hlt
    rw [E.row_eq] at hat
    rw [List.drop_eq_getElem_cons hlt, deepEs]
    refine Ev.step ?_
    simp only [l57_0_eq]
    refine Ev.yes (lt_yes i _ hlt) ?_
    simp only [q57_1_eq, tn, hat]
    refine Ev.yes (in_range i _ (by rw [E.rows_len]; exact hlt)) ?_
    have hw : IntKind.wrap .i64 (Int.ofNat n + 1 - 1) = Int.ofNat n := by rw [wrap_in _ (by simp only [Int.ofNat_eq_natCast]; omega) (by simp only [Int.ofNat_eq_natCast]; omega)]; omega
    rw [hw]
    have hc := H ks[i] (List.getElem_mem hlt)
    cases hx : deepE ks[i] n with
    | some y =>
      rw [hx] at hc
      exact v_t2a8IISL1L1L8IIoB hc (Ev.yes rfl (Ev.ret _))
    | none =>
      rw [hx] at hc
      refine v_t2a8IISL1L1L8IIoB hc (Ev.no rfl ?_)
      simp only [q57_2_eq, wrap_up i (by omega)]
      exact ih (i + 1) (by omega) (by omega)
mutual
def SmallE : E → Prop
  | .mk _ _ _ _ _ ks _ _ => ks.length < 9223372036854775807 ∧ SmallEs ks
def SmallEs : List E → Prop
  | [] => True
  | x :: r => SmallE x ∧ SmallEs r
end
mutual
theorem C_deep : ∀ (e : E), SmallE e → ∀ n, n ≤ 40 → Cal 57 [eV e, nV (Int.ofNat n)] [] (RV (deepV (deepE e n)))
  | e, hs, 0, _ => by
    rw [deepE_zero]
    refine call57 _ _ _ _ _ _ _ _ _ ?_
    simp only [e57_eq]
    exact Ev.yes rfl (Ev.ret _)
  | .mk k m s ns os ks a b, hs, n + 1, hn => by
    rw [SmallE] at hs
    rw [deepE_succ]
    refine call57 _ _ _ _ _ _ _ _ _ ?_
    simp only [e57_eq]
    refine Ev.no (decide_eq_false (by simp only [Int.ofNat_eq_natCast]; omega)) ?_
    simp only [q57_0_eq]
    have := L_deep ks hs.1 n (by omega) (C_deepAll ks hs.2 n (by omega))
    have h2 := fun (x4 x5 : Int) (s6 : ByteArray) (x7 x8 : Int) => Ev.diag (this x4 x5 s6 x7 x8 _ 0 (Nat.zero_le _) rfl)
    have e1 : Int.ofNat (E.rows (E.mk k m s ns os ks a b).kids).length = Int.ofNat ks.length := congrArg Int.ofNat (E.rows_len ks)
    rw [e1]
    exact h2 _ _ _ _ _
theorem C_deepAll : ∀ (ks : List E), SmallEs ks → ∀ n, n ≤ 40 → ∀ x ∈ ks, Cal 57 [eV x, nV (Int.ofNat n)] [] (RV (deepV (deepE x n)))
  | [], _, _, _, x, hx => by cases hx
  | y :: r, hs, n, hn, x, hx => by
    rw [SmallEs] at hs
    rcases List.mem_cons.1 hx with h | h
    · rw [h]; exact C_deep y hs.1 n hn
    · exact C_deepAll r hs.2 n hn x h
end
theorem C_limit (e : E) (hs : SmallE e) : Cal 24 [eV e] [] (RV (V.agg (limX (limE e)))) := by
  refine call24 _ _ _ _ _ _ _ _ ?_
  simp only [e24_eq]
  have h := C_deep e hs 40 (by decide)
  unfold limE
  cases hd : deepE e 40 with
  | some y =>
    rw [hd] at h
    exact v_t2a8IISL1L1L8IIoB h (Ev.yes rfl (Ev.ret _))
  | none =>
    rw [hd] at h
    refine v_t2a8IISL1L1L8IIoB h (Ev.no rfl ?_)
    exact Ev.of fun m k n => by rw [q24_0_eq]; rfl
end Go.Proofs.YtbmcafehpgimfaaGreat.Ps
