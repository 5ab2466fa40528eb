/- Trees and tokens as data of the evaluator. The program's lexer: what the plain scanner tells. The program's lexer over a whole text. The printer's names and levels, and the reference's. The reference's names, and what it says of an expression itself. What the reference says of an expression itself; how deep it goes. Rows of trees; small lemmas on them. From what the rows' condition gives to the evaluator, and back: a law that is true runs so. Slices handed in: their elements read as rows, and they are no longer than the form's own reach. What the printer says of an expression itself. What the printer says of an expression itself is what the reference says; the same of all its parts. What is right: expressions, types, programs; the printer's and the reference's. Programs and expressions handed in, as trees. The listed variables, read off the rows' condition. What types are right: the printer's and the reference's. What programs are right: the printer's and the reference's. Few and FewProgram answer something, whatever they are handed; what Few's yes means. FewProgram answers something, whatever it is handed: its loops. The law of right programs: it holds. -/
import Derived.Test.YtaphnbaiamnfpaaDoorPv0
import Derived.Test.YtaphnbaiamnfpaaDoorXaa
import Derived.Test.YtaphnbaiamnfpaaDoorPvL
import Derived.Test.YtaphnbaiamnfpaaDoorPvN
import Derived.Test.YtaphnbaiamnfpaaDoorPvM
import Derived.Test.YtaphnbaiamnfpaaDoorPvT
import Derived.Test.YtaphnbaiamnfpaaDoorQk
import Derived.HandedShaped
import Derived.ProofKit
import Derived.OpenShut
import Derived.Lib.LaidTab
import Derived.LaidMore
import Derived.Test.YtaphnbaiamnfpaaDoorPvV
import Derived.Test.YtaphnbaiamnfpaaDoorRows
import Derived.Stop.Joined
import Derived.Test.YtaphnbaiamnfpaaDoorPvF
import Derived.Test.YtaphnbaiamnfpaaDoorPvY
namespace Go.Proofs.YtaphnbaiamnfpaaDoor.Ps
set_option linter.unusedVariables false
set_option linter.unusedSimpArgs false
open Go Go.RowKit Px
open Lx (Tok)

def bx (l : List UInt8) : ByteArray := ⟨l.toArray⟩
theorem bx_data (l : List UInt8) : (bx l).data.toList = l := by simp [bx]
theorem bx_self (s : ByteArray) : bx s.data.toList = s := by
  obtain ⟨⟨l⟩⟩ := s
  rfl
theorem bx_size (l : List UInt8) : (bx l).size = l.length := by simp [bx, ByteArray.size]
theorem bx_append (a b : List UInt8) : bx a ++ bx b = bx (a ++ b) := by
  apply ByteArray.ext
  rw [ByteArray.data_append]
  simp [bx]
theorem beqL_eq (a b : List UInt8) : beqL a b = (a == b) := by
  rw [Bool.eq_iff_iff, beqL_iff, beq_iff_eq]
def Tok.row (t : Tok) : List D := [.int .i64 t.kind, .str (bx t.text), .int .i64 t.n, .int .i64 t.line, .int .i64 t.col]
def toks (l : List Tok) : List (List D) := l.map Tok.row
theorem toks_len (l : List Tok) : (toks l).length = l.length := List.length_map ..
def strs (l : List (List UInt8)) : List (List D) := l.map fun s => [.str (bx s)]
def ints (l : List Int) : List (List D) := l.map fun n => [.int .i64 n]
mutual
def T.row : T → List D
  | .mk k l => [.int .i64 k, .list 2 (T.rows l)]
def T.rows : List T → List (List D)
  | [] => []
  | t :: r => T.row t :: T.rows r
end
mutual
def E.row : E → List D
  | .mk k n s ns os ks a b => [.int .i64 k, .int .i64 n, .str (bx s), .list 1 (strs ns), .list 1 (ints os), .list 8 (E.rows ks), .int .i64 a, .int .i64 b]
def E.rows : List E → List (List D)
  | [] => []
  | t :: r => E.row t :: E.rows r
end
def Fld.row (f : Fld) : List D := [.str (bx f.name), .int .i64 f.typ.k, .list 2 (T.rows f.typ.l), .int .i64 f.line, .int .i64 f.col]
def Fld.rows (l : List Fld) : List (List D) := l.map Fld.row
def Fnc.row (f : Fnc) : List D := [.str (bx f.name), .list 5 (Fld.rows f.params), .int .i64 f.res.k, .list 2 (T.rows f.res.l)] ++ E.row f.body ++ [.int .i64 f.line, .int .i64 f.col]
def Fnc.rows (l : List Fnc) : List (List D) := l.map Fnc.row
theorem T.row_eq (t : T) : T.row t = [.int .i64 t.k, .list 2 (T.rows t.l)] := by cases t; rw [T.row]; rfl
theorem E.row_eq (e : E) : E.row e = [.int .i64 e.k, .int .i64 e.n, .str (bx e.name), .list 1 (strs e.names), .list 1 (ints e.odds), .list 8 (E.rows e.kids), .int .i64 e.line, .int .i64 e.col] := by cases e; rw [E.row]; rfl
theorem T.rows_map : ∀ l : List T, T.rows l = l.map T.row
  | [] => by rw [T.rows]; rfl
  | t :: r => by rw [T.rows, T.rows_map r]; rfl
theorem E.rows_map : ∀ l : List E, E.rows l = l.map E.row
  | [] => by rw [E.rows]; rfl
  | t :: r => by rw [E.rows, E.rows_map r]; rfl
theorem rows_getD {α : Type} [Inhabited α] (f : α → List D) (l : List α) (i : Nat) (h : i < l.length) : (l.map f).getD i [] = f (l.getD i default) := by
  rw [List.getD_eq_getElem?_getD, List.getD_eq_getElem?_getD, List.getElem?_map, List.getElem?_eq_getElem h]
  rfl
abbrev iX (n : Int) : X := X.d (D.int IntKind.i64 n)
abbrev sX (s : List UInt8) : X := X.d (D.str (bx s))
abbrev bX (b : Bool) : X := X.d (D.bool b)
def eV (e : E) : V := V.agg [X.d (D.int IntKind.i64 e.k), X.d (D.int IntKind.i64 e.n), X.d (D.str (bx e.name)), X.d (D.list 1 (strs e.names)), X.d (D.list 1 (ints e.odds)), X.d (D.list 8 (E.rows e.kids)), X.d (D.int IntKind.i64 e.line), X.d (D.int IntKind.i64 e.col)]
def tV (t : T) : V := V.agg [X.d (D.int IntKind.i64 t.k), X.d (D.list 2 (T.rows t.l))]
def fV (f : Fld) : V := V.agg [X.d (D.str (bx f.name)), X.d (D.int IntKind.i64 f.typ.k), X.d (D.list 2 (T.rows f.typ.l)), X.d (D.int IntKind.i64 f.line), X.d (D.int IntKind.i64 f.col)]
def kV (t : Tok) : V := V.agg [X.d (D.int IntKind.i64 t.kind), X.d (D.str (bx t.text)), X.d (D.int IntKind.i64 t.n), X.d (D.int IntKind.i64 t.line), X.d (D.int IntKind.i64 t.col)]
theorem wrap_in (n : Int) (h : -9223372036854775808 ≤ n) (h' : n ≤ 9223372036854775807) : IntKind.wrap .i64 n = n := by
  have e1 : IntKind.bits .i64 = 64 := rfl
  have e2 : IntKind.signed .i64 = true := rfl
  have e3 : (2 ^ 64 : Int) = 18446744073709551616 := rfl
  have e4 : (2 ^ 63 : Int) = 9223372036854775808 := rfl
  unfold IntKind.wrap
  simp only [e1, e2, e3, e4, Bool.true_and, decide_eq_true_eq, ge_iff_le]
  omega
theorem wrap_up (i : Nat) (h : i < 9223372036854775807) : IntKind.wrap .i64 (Int.ofNat i + 1) = Int.ofNat (i + 1) := wrap_in _ (by have := Int.natCast_nonneg i; simp only [Int.ofNat_eq_natCast]; omega) (by simp only [Int.ofNat_eq_natCast]; omega)
theorem lt_yes (i n : Nat) (h : i < n) : decide (Int.ofNat i < Int.ofNat n) = true := decide_eq_true (Int.ofNat_lt.2 h)
theorem lt_no (i n : Nat) (h : n ≤ i) : decide (Int.ofNat i < Int.ofNat n) = false := decide_eq_false (fun k => by have := Int.ofNat_lt.1 k; omega)
theorem in_range (i n : Nat) (h : i < n) : (decide ((0 : Int) ≤ Int.ofNat i) && decide (Int.ofNat i < Int.ofNat n)) = true := by
  simp only [Int.ofNat_eq_natCast, Bool.and_eq_true, decide_eq_true_eq]
  omega
theorem tn (i : Nat) : Int.toNat (Int.ofNat i) = i := rfl
end Go.Proofs.YtaphnbaiamnfpaaDoor.Ps
namespace Go.Proofs.YtaphnbaiamnfpaaDoor.Ps
set_option linter.unusedVariables false
set_option linter.unusedSimpArgs false
set_option maxRecDepth 4000
open Go Go.RowKit Px Lx

def tokV : Lx.R → V
  | .ok k w n => V.tup [V.agg [iX k, sX w, iX n, iX 0, iX 0], V.one (iX 0)]
  | .bad e w => V.tup [V.agg [iX 0, sX w, iX 0, iX 0, iX 0], V.one (iX e)]
abbrev RV (v : V) : Out := ⟨true, v, D.junk, [], 0⟩
theorem mem_takeWhile (p : UInt8 → Bool) : ∀ (l : List UInt8) (x : UInt8), x ∈ l.takeWhile p → p x = true
  | [], x, h => by simp at h
  | c :: t, x, h => by
    by_cases hc : p c = true
    · rw [List.takeWhile_cons_of_pos hc] at h
      rcases List.mem_cons.1 h with h | h
      · rw [h]; exact hc
      · exact mem_takeWhile p t x h
    · rw [List.takeWhile_cons_of_neg hc] at h; simp at h
theorem drop_cases (l : List UInt8) (i : Nat) (hi : i ≤ l.length) : (i = l.length ∧ l.drop i = []) ∨ (i < l.length ∧ ∃ c t, l.drop i = c :: t ∧ l.drop (i + 1) = t) := by
  by_cases h : i < l.length
  · refine .inr ⟨h, l[i], l.drop (i + 1), List.drop_eq_getElem_cons h, rfl⟩
  · exact .inl ⟨by omega, List.drop_eq_nil_of_le (by omega)⟩
theorem ext_bx (l : List UInt8) (a b : Nat) : (bx l).extract a b = bx ((l.take b).drop a) := by
  apply ByteArray.ext
  rw [ByteArray.data_extract]
  simp [bx, List.drop_take]
theorem get_bx (l : List UInt8) (i : Nat) (c : UInt8) (t : List UInt8) (h : l.drop i = c :: t) : ByteArray.get! (bx l) (Int.toNat (Int.ofNat i)) = c := by
  have hi : i < l.length := by
    by_cases hi : i < l.length
    · exact hi
    · rw [List.drop_eq_nil_of_le (by omega)] at h; cases h
  have h2 : l[i] = c := by
    rw [List.drop_eq_getElem_cons hi] at h
    injection h
  show (bx l).data[i]! = c
  have : (bx l).data = l.toArray := rfl
  rw [this, getElem!_pos _ _ (by simpa using hi)]
  simpa using h2
theorem get_bx0 (c : UInt8) (t : List UInt8) : ByteArray.get! (bx (c :: t)) 0 = c := get_bx (c :: t) 0 c t rfl
theorem C_small (c : UInt8) : Cal 70 [V.one (X.d (D.int IntKind.u8 (Int.ofNat c.toNat)))] [] (RV (V.one (bX (sm c)))) := by
  refine call70 _ (Ev.of fun m k n => ?_)
  rw [e70_eq]
  unfold sm
  have e1 : decide (Int.ofNat c.toNat ≥ 97) = decide (97 ≤ c.toNat) := decide_eq_decide.2 (by simp only [Int.ofNat_eq_natCast]; omega)
  have e2 : decide (Int.ofNat c.toNat ≤ 122) = decide (c.toNat ≤ 122) := decide_eq_decide.2 (by simp only [Int.ofNat_eq_natCast]; omega)
  rw [e1, e2]
  cases decide (97 ≤ c.toNat) <;> rfl
theorem C_digit (c : UInt8) : Cal 71 [V.one (X.d (D.int IntKind.u8 (Int.ofNat c.toNat)))] [] (RV (V.one (bX (dg c)))) := by
  refine call71 _ (Ev.of fun m k n => ?_)
  rw [e71_eq]
  unfold dg
  have e1 : decide (Int.ofNat c.toNat ≥ 48) = decide (48 ≤ c.toNat) := decide_eq_decide.2 (by simp only [Int.ofNat_eq_natCast]; omega)
  have e2 : decide (Int.ofNat c.toNat ≤ 57) = decide (c.toNat ≤ 57) := decide_eq_decide.2 (by simp only [Int.ofNat_eq_natCast]; omega)
  rw [e1, e2]
  cases decide (48 ≤ c.toNat) <;> rfl
theorem lib_step {f : FuncId} {args : List V} {rows : List (List Lf × List X)} {k : Nat} (h : progV f = none) : Ak (k + 1) false f args rows = libV (Ak k false) f args rows := by
  have e : Ak (k + 1) false f args rows = (match progV f with
    | some fn => cond (Nat.beq args.length fn.nparams) (runF (Ak k) shp rc false (shp f) fn k args rows) none
    | none => cond false none (libV (Ak k false) f args rows)) := rfl
  rw [e, h]
  rfl
theorem C_lcontains (s t : ByteArray) (h : s.size < 4294967281) : Cal 72 [V.one (X.d (D.str s)), V.one (X.d (D.str t))] [] (RV (V.one (bX (Lib.contains s.data.toList t.data.toList)))) := by
  refine ⟨1, fun m k n h1 h2 h3 => ?_⟩
  obtain ⟨k, rfl⟩ : ∃ k', k = k' + 1 := ⟨k - 1, by omega⟩
  refine (lib_step (by kernel_rfl)).trans ?_
  show cond (Nat.blt s.size 4294967281) _ none = _
  rw [show Nat.blt s.size 4294967281 = true from Nat.ble_eq_true_of_le h]
  rfl
theorem C_lindex (s : ByteArray) (c : Int) : Cal 101 [V.one (X.d (D.str s)), V.one (X.d (D.int IntKind.u8 c))] [] (RV (V.one (iX (Lib.indexByte s.data.toList c.toNat.toUInt8)))) := by
  refine ⟨1, fun m k n h1 h2 h3 => ?_⟩
  obtain ⟨k, rfl⟩ : ∃ k', k = k' + 1 := ⟨k - 1, by omega⟩
  refine (lib_step (by kernel_rfl)).trans ?_
  rfl

/-! ### Words -/
section
variable {x2 x3 x4 x5 x6 x7 : Int} {s3 s4 : ByteArray}
theorem L_word (l : List UInt8) (hl : l.length ≤ 1000000) : ∀ (d i : Nat), i ≤ l.length → l.length - i = d → ∀ r, Ev (fun m k n => q38_1 (Ak k) n (bx l) (Int.ofNat (i + ((l.drop i).takeWhile nm).length)) x2 s3 x4 x5 x6) r →
    Ev (fun m k n => l38_0 m (Ak k) n (bx l) (Int.ofNat i) x2 s3 x4 x5 x6) r := by
  intro d
  induction d with
  | zero =>
    intro i hi hd r h
    rw [List.drop_eq_nil_of_le (by omega)] at h
    refine Ev.step ?_
    simp only [l38_0_eq]
    exact Ev.no (lt_no i _ (by rw [bx_size]; omega)) h
  | succ d ih =>
    intro i hi hd r h
    rcases drop_cases l i hi with ⟨e, _⟩ | ⟨hlt, c, t, hc, ht⟩
    · omega
    · have hb := get_bx l i c t hc
      rw [hc] at h
      refine Ev.step ?_
      simp only [l38_0_eq, hb]
      refine Ev.yes (lt_yes i _ (by rw [bx_size]; exact hlt)) (Ev.yes (in_range i _ (by rw [bx_size]; exact hlt)) ?_)
      refine v_oB (C_small c) ?_
      by_cases hn : nm c = true
      · rw [List.takeWhile_cons_of_pos hn] at h
        have h2 := ih (i + 1) (by omega) (by omega) r (by rw [ht]; simpa [Nat.add_assoc, Nat.add_comm 1] using h)
        have go : Ev (fun m k n => q38_0 (Ak k) m n (bx l) (Int.ofNat i) x2 s3 x4 x5 x6) r := by
          simp only [q38_0_eq, wrap_up i (show i < 9223372036854775807 by omega)]
          exact h2
        cases h1 : sm c with
        | true => exact Ev.yes rfl go
        | false =>
          refine Ev.no rfl (Ev.yes (in_range i _ (by rw [bx_size]; exact hlt)) (v_oB (C_digit c) ?_))
          cases h3 : dg c with
          | true => exact Ev.yes rfl go
          | false =>
            refine Ev.no rfl (Ev.yes (in_range i _ (by rw [bx_size]; exact hlt)) (Ev.yes ?_ go))
            rw [beq_iff_eq]
            simp [nm, h1, h3] at hn
            rw [hn]; rfl
      · rw [List.takeWhile_cons_of_neg hn] at h
        have h1 : sm c = false := by
          cases e : sm c
          · rfl
          · exact absurd (sm_nm e) hn
        have h3 : dg c = false := by
          cases e : dg c
          · rfl
          · exact absurd (by simp [nm, e]) hn
        rw [h1]
        refine Ev.no rfl (Ev.yes (in_range i _ (by rw [bx_size]; exact hlt)) (v_oB (C_digit c) ?_))
        rw [h3]
        refine Ev.no rfl (Ev.yes (in_range i _ (by rw [bx_size]; exact hlt)) (Ev.no ?_ h))
        rw [beq_eq_false_iff_ne]
        intro e
        refine hn ?_
        have : c.toNat = 95 := by
          have e' : ((c.toNat : Nat) : Int) = 95 := e
          omega
        simp [nm, this]
theorem cut_ok (l : List UInt8) (n : Nat) (hn : n ≤ l.length) : (decide ((0 : Int) ≤ Int.ofNat n) && decide (Int.ofNat n ≤ Int.ofNat (bx l).size) && true && decide ((0 : Int) ≤ Int.ofNat n)) = true := by
  rw [bx_size]
  simp only [Int.ofNat_eq_natCast, Bool.and_eq_true, decide_eq_true_eq, and_true]
  omega
theorem Q_word (l : List UInt8) (n : Nat) (hl : l.length ≤ 1000000) (hn : n ≤ l.length) (hw : ∀ c ∈ l.take n, nm c = true) (hne : l.take n ≠ []) :
    Ev (fun _ k m => q38_1 (Ak k) m (bx l) (Int.ofNat n) x2 s3 x4 x5 x6) (RV (tokV (if 24 < n then .bad 2 (l.take n) else if isWord (l.take n) then .ok 2 (l.take n) 0 else .ok 1 (l.take n) 0))) := by
  have he : (bx l).extract 0 (Int.toNat (Int.ofNat n)) = bx (l.take n) := by rw [ext_bx]; rfl
  simp only [q38_1_eq, he]
  by_cases h : 24 < n
  · rw [if_pos h]
    exact Ev.yes (decide_eq_true (by show (24 : Int) < Int.ofNat n; simp only [Int.ofNat_eq_natCast]; omega)) (Ev.yes (cut_ok l n hn) (Ev.ret _))
  · rw [if_neg h]
    refine Ev.no (decide_eq_false (by show ¬ (24 : Int) < Int.ofNat n; simp only [Int.ofNat_eq_natCast]; omega)) ?_
    simp only [q38_2_eq, he]
    refine Ev.yes (cut_ok l n hn) (Ev.yes (Nat.ble_eq_true_of_le (by rw [bx_size, List.length_take]; omega)) (Ev.yes (Nat.ble_eq_true_of_le ?_) ?_))
    · show (bx [32] ++ bx (l.take n)).size + 1 ≤ _
      rw [bx_append, bx_size, List.length_append, List.length_take, List.length_singleton]; omega
    have hc := C_lcontains (bx wordText) (bx [32] ++ bx (l.take n) ++ bx [32]) (by rw [bx_size]; decide)
    have e1 : Lib.contains (bx wordText).data.toList (bx [32] ++ bx (l.take n) ++ bx [32]).data.toList = isWord (l.take n) := by
      rw [bx_append, bx_append, bx_data, bx_data, ← contains_isWord _ hw hne]
      simp
    rw [e1] at hc
    refine v_oB hc ?_
    cases hi : isWord (l.take n) with
    | true => exact Ev.yes rfl (Ev.yes (cut_ok l n hn) (Ev.ret _))
    | false =>
      refine Ev.no rfl ?_
      simp only [q38_3_eq, he]
      exact Ev.yes (cut_ok l n hn) (Ev.ret _)
/-! ### Numbers -/
/-- A value, cut off. -/
def cap (v : Nat) : Int := if (v : Int) ≤ 2147483647 then (v : Int) else 2147483648
theorem wrap_u8 (n : Int) (h : 0 ≤ n) (h' : n < 256) : IntKind.wrap .u8 n = n := by
  have e1 : IntKind.bits .u8 = 8 := rfl
  have e2 : IntKind.signed .u8 = false := rfl
  have e3 : (2 ^ 8 : Int) = 256 := rfl
  unfold IntKind.wrap
  simp only [e1, e2, e3, Bool.false_and]
  rw [Int.emod_eq_of_lt h h']
  rfl
theorem cap_next (v : Nat) (c : UInt8) (h : 48 ≤ c.toNat) (h' : c.toNat ≤ 57) :
    (if 2147483648 < IntKind.wrap .i64 (IntKind.wrap .i64 (cap v * 10) + IntKind.wrap .i64 (IntKind.wrap .u8 (Int.ofNat c.toNat - 48))) then (2147483648 : Int) else IntKind.wrap .i64 (IntKind.wrap .i64 (cap v * 10) + IntKind.wrap .i64 (IntKind.wrap .u8 (Int.ofNat c.toNat - 48)))) = cap (v * 10 + (c.toNat - 48)) := by
  have hc : 0 ≤ cap v ∧ cap v ≤ 2147483648 := by unfold cap; split <;> omega
  simp only [Int.ofNat_eq_natCast]
  rw [wrap_u8 _ (by omega) (by omega), wrap_in ((c.toNat : Int) - 48) (by omega) (by omega), wrap_in (cap v * 10) (by omega) (by omega), wrap_in _ (by omega) (by omega)]
  unfold cap
  split <;> split <;> split <;> omega
theorem L_digits (l : List UInt8) (hl : l.length ≤ 1000000) : ∀ (d i : Nat), i ≤ l.length → l.length - i = d → (∀ c ∈ l.take i, dg c = true) →
    ∀ r, Ev (fun m k n => q38_6 (Ak k) n (bx l) (Int.ofNat (i + ((l.drop i).takeWhile dg).length)) (cap (val (l.take (i + ((l.drop i).takeWhile dg).length)))) x3 s4 x5 x6 x7) r →
    Ev (fun m k n => l38_1 m (Ak k) n (bx l) (Int.ofNat i) (cap (val (l.take i))) x3 s4 x5 x6 x7) r := by
  intro d
  induction d with
  | zero =>
    intro i hi hd hw r h
    rw [List.drop_eq_nil_of_le (by omega)] at h
    refine Ev.step ?_
    simp only [l38_1_eq]
    exact Ev.no (lt_no i _ (by rw [bx_size]; omega)) h
  | succ d ih =>
    intro i hi hd hw r h
    rcases drop_cases l i hi with ⟨e, _⟩ | ⟨hlt, c, t, hc, ht⟩
    · omega
    · have hb := get_bx l i c t hc
      have hlc : l[i] = c := by
        rw [List.drop_eq_getElem_cons hlt] at hc
        injection hc
      have hsn : l.take (i + 1) = l.take i ++ [c] := by rw [List.take_succ_eq_append_getElem hlt, hlc]
      rw [hc] at h
      refine Ev.step ?_
      simp only [l38_1_eq, hb]
      refine Ev.yes (lt_yes i _ (by rw [bx_size]; exact hlt)) (Ev.yes (in_range i _ (by rw [bx_size]; exact hlt)) ?_)
      refine v_oB (C_digit c) ?_
      by_cases hn : dg c = true
      · rw [List.takeWhile_cons_of_pos hn] at h
        have h48 : 48 ≤ c.toNat ∧ c.toNat ≤ 57 := by simpa [dg] using hn
        have h2 := ih (i + 1) (by omega) (by omega) (by rw [hsn]; intro x hx; rcases List.mem_append.1 hx with hx | hx; exact hw x hx; rw [List.mem_singleton.1 hx]; exact hn) r
          (by rw [ht]; simpa [Nat.add_assoc, Nat.add_comm 1] using h)
        rw [hsn, val_snoc] at h2
        refine Ev.yes hn ?_
        simp only [q38_4_eq, hb, cap_next _ c h48.1 h48.2]
        refine Ev.yes (in_range i _ (by rw [bx_size]; exact hlt)) ?_
        simp only [q38_5_eq, wrap_up i (show i < 9223372036854775807 by omega)]
        exact h2
      · rw [List.takeWhile_cons_of_neg hn] at h
        exact Ev.no (by simpa using hn) h
theorem Q_digits (l : List UInt8) (n : Nat) (hn : n ≤ l.length) :
    Ev (fun _ k m => q38_6 (Ak k) m (bx l) (Int.ofNat n) (cap (val (l.take n))) x3 s4 x5 x6 x7) (RV (tokV (if 2147483647 < val (l.take n) then .bad 2 (l.take n) else .ok 3 (l.take n) (val (l.take n))))) := by
  have he : (bx l).extract 0 (Int.toNat (Int.ofNat n)) = bx (l.take n) := by rw [ext_bx]; rfl
  simp only [q38_6_eq, he]
  generalize val (l.take n) = v
  by_cases h : 2147483647 < v
  · have hc : cap v = 2147483648 := by unfold cap; rw [if_neg (by omega)]
    rw [if_pos h, hc]
    exact Ev.yes rfl (Ev.yes (cut_ok l n hn) (Ev.ret _))
  · have hc : cap v = (v : Int) := by unfold cap; rw [if_pos (by omega)]
    rw [if_neg h, hc]
    refine Ev.no (decide_eq_false (by show ¬ (2147483647 : Int) < (v : Int); omega)) ?_
    simp only [q38_7_eq, he]
    exact Ev.yes (cut_ok l n hn) (Ev.ret _)

/-! ### Signs -/
theorem C_prefix (l p : List UInt8) : Cal 100 [V.one (X.d (D.str (bx l))), V.one (X.d (D.str (bx p)))] [] (RV (V.one (bX (l.take p.length == p)))) := by
  refine call100 _ _ ?_
  simp only [e100_eq]
  have h : Cal 112 [V.one (X.d (D.str (bx l))), V.one (X.d (D.str (bx p)))] [] (RV (V.one (bX (l.take p.length == p)))) := by
    refine call112 _ _ ?_
    simp only [e112_eq, bx_size]
    by_cases hle : p.length ≤ l.length
    · refine Ev.yes (decide_eq_true (by show Int.ofNat p.length ≤ Int.ofNat l.length; exact Int.ofNat_le.2 hle)) (Ev.yes ?_ (Ev.of fun m k n => ?_))
      · simp only [Int.ofNat_eq_natCast, Bool.and_eq_true, decide_eq_true_eq, and_true]
        omega
      · rw [beqL_eq, ext_bx, bx_data, bx_data]
        rfl
    · refine Ev.no (decide_eq_false (by show ¬ Int.ofNat p.length ≤ Int.ofNat l.length; simp only [Int.ofNat_eq_natCast]; omega)) (Ev.of fun m k n => ?_)
      have : (l.take p.length == p) = false := by
        rw [beq_eq_false_iff_ne]
        intro e
        have := congrArg List.length e
        rw [List.length_take] at this
        omega
      rw [this]
  exact v_oB h (Ev.ret _)
theorem L_sign (l : List UInt8) (hne : l ≠ []) : ∀ (d i : Nat), i ≤ 4 → 4 - i = d →
    Ev (fun m k n => l73_0 m (Ak k) n (bx l) (strs twos) 4 (Int.ofNat i)) (RV (V.one (sX (if has (twos.drop i) (l.take 2) then l.take 2 else if hasB ones (l.headD 0) then l.take 1 else [])))) := by
  intro d
  induction d with
  | zero =>
    intro i hi hd
    obtain rfl : i = 4 := by omega
    obtain ⟨c, t, rfl⟩ : ∃ c t, l = c :: t := by cases l with | nil => exact absurd rfl hne | cons c t => exact ⟨c, t, rfl⟩
    refine Ev.step ?_
    simp only [l73_0_eq, q73_2_eq, get_bx0]
    have hp : decide ((0 : Int) < Int.ofNat (bx (c :: t)).size) = true := decide_eq_true (by rw [bx_size]; simp only [List.length_cons, Int.ofNat_eq_natCast]; omega)
    have hp1 : decide ((1 : Int) ≤ Int.ofNat (bx (c :: t)).size) = true := decide_eq_true (by rw [bx_size]; simp only [List.length_cons, Int.ofNat_eq_natCast]; omega)
    refine Ev.no rfl (Ev.yes (by rw [hp]; rfl) ?_)
    have hi := C_lindex (bx ones) (Int.ofNat c.toNat)
    rw [show (Int.ofNat c.toNat).toNat.toUInt8 = c by simp, bx_data] at hi
    refine v_oI hi ?_
    have hz := indexByte_has ones c
    have drop4 : ¬ (has (twos.drop 4) ((c :: t).take 2) = true) := fun h => by cases h
    rw [if_neg drop4]
    by_cases h : hasB ones c = true
    · rw [if_pos (show hasB ones ((c :: t).headD 0) = true from h)]
      refine Ev.yes (decide_eq_true (hz.2 h)) (Ev.yes (by rw [hp1]; rfl) (Ev.of fun m k n => ?_))
      rw [ext_bx]
      rfl
    · rw [if_neg (show ¬ hasB ones ((c :: t).headD 0) = true from h)]
      refine Ev.no (decide_eq_false fun e => h (hz.1 e)) ?_
      exact Ev.of fun m k n => by rw [q73_3_eq]; rfl
  | succ d ih =>
    intro i hi hd
    have hlt : i < twos.length := by show i < 4; omega
    have h2 := ih (i + 1) (by omega) (by omega)
    have hdr : twos.drop i = twos[i] :: twos.drop (i + 1) := List.drop_eq_getElem_cons hlt
    have hlen : twos[i].length = 2 := by
      have : ∀ x ∈ twos, x.length = 2 := by decide
      exact this _ (List.getElem_mem hlt)
    have hat : (strs twos).getD i [] = [D.str (bx twos[i])] := by
      unfold strs
      rw [rows_getD _ _ _ hlt, List.getD_eq_getElem?_getD, List.getElem?_eq_getElem hlt]
      rfl
    refine Ev.step ?_
    simp only [l73_0_eq]
    refine Ev.yes (lt_yes i 4 (by omega)) ?_
    simp only [q73_0_eq, tn, hat]
    refine Ev.yes (in_range i _ (by rw [show (strs twos).length = 4 from rfl]; omega)) ?_
    refine v_oB (C_prefix l twos[i]) ?_
    rw [hdr, hlen]
    by_cases h : l.take 2 = twos[i]'hlt
    · refine Ev.yes (by rw [h]; simp) (Ev.of fun m k n => ?_)
      rw [has_yes _ h, if_pos rfl, h]
      rfl
    · refine Ev.no (by simpa using h) ?_
      rw [has_no _ h]
      simp only [q73_1_eq, wrap_up i (show i < 9223372036854775807 by omega)]
      exact h2
theorem C_sign (l : List UInt8) (hne : l ≠ []) : Cal 73 [V.one (X.d (D.str (bx l)))] [] (RV (V.one (sX (sgn l)))) := by
  refine call73 _ ?_
  simp only [e73_eq]
  exact Ev.diag (L_sign l hne 4 0 (by omega) (by omega))

/-! ### One token -/
theorem C_one (l : List UInt8) (hne : l ≠ []) (hl : l.length ≤ 1000000) : Cal 38 [V.one (X.d (D.str (bx l)))] [] (RV (tokV (Lx.tok l))) := by
  obtain ⟨c, t, rfl⟩ : ∃ c t, l = c :: t := by cases l with | nil => exact absurd rfl hne | cons c t => exact ⟨c, t, rfl⟩
  have hp : (true && decide ((0 : Int) < Int.ofNat (bx (c :: t)).size)) = true := by rw [Bool.true_and]; exact decide_eq_true (by rw [bx_size]; simp only [List.length_cons, Int.ofNat_eq_natCast]; omega)
  have hp1 : (true && decide ((1 : Int) ≤ Int.ofNat (bx (c :: t)).size) && true && true) = true := by rw [Bool.true_and, Bool.and_true, Bool.and_true]; exact decide_eq_true (by rw [bx_size]; simp only [List.length_cons, Int.ofNat_eq_natCast]; omega)
  refine call38 _ ?_
  simp only [e38_eq, get_bx0]
  refine Ev.yes hp (v_oB (C_small c) ?_)
  unfold Lx.tok
  show Ev _ (RV (tokV (if sm c then _ else if dg c then _ else _)))
  by_cases h1 : sm c = true
  · rw [if_pos h1]
    have hn := takeWhile_len nm (c :: t)
    have hle : ((c :: t).takeWhile nm).length ≤ (c :: t).length := (List.takeWhile_sublist nm).length_le
    refine Ev.yes h1 (Ev.diag (L_word (c :: t) hl _ 0 (by omega) rfl _ ?_))
    have hq := fun (x2 : Int) (s3 : ByteArray) (x4 x5 x6 : Int) => Q_word (x2 := x2) (s3 := s3) (x4 := x4) (x5 := x5) (x6 := x6) (c :: t) ((c :: t).takeWhile nm).length hl hle (by rw [hn]; exact fun x hx => mem_takeWhile nm _ x hx) (by rw [hn, List.takeWhile_cons_of_pos (sm_nm h1)]; simp)
    rw [hn] at hq
    rw [List.drop_zero, Nat.zero_add]
    exact hq _ _ _ _ _
  · rw [if_neg h1]
    refine Ev.no (by simpa using h1) (Ev.yes hp (v_oB (C_digit c) ?_))
    by_cases h2 : dg c = true
    · rw [if_pos h2]
      have hn := takeWhile_len dg (c :: t)
      have hle : ((c :: t).takeWhile dg).length ≤ (c :: t).length := (List.takeWhile_sublist dg).length_le
      refine Ev.yes h2 (Ev.diag (L_digits (c :: t) hl _ 0 (by omega) rfl (by simp) _ ?_))
      have hq := fun (x3 : Int) (s4 : ByteArray) (x5 x6 x7 : Int) => Q_digits (x3 := x3) (s4 := s4) (x5 := x5) (x6 := x6) (x7 := x7) (c :: t) ((c :: t).takeWhile dg).length hle
      rw [List.drop_zero, Nat.zero_add]
      rw [hn] at hq ⊢
      exact hq _ _ _ _ _
    · rw [if_neg h2]
      refine Ev.no (by simpa using h2) ?_
      simp only [q38_8_eq]
      refine v_oS (C_sign (c :: t) (by simp)) ?_
      by_cases h3 : sgn (c :: t) = []
      · rw [if_pos h3, h3]
        refine Ev.no rfl ?_
        simp only [q38_9_eq]
        refine Ev.yes hp1 (Ev.of fun m k n => ?_)
        rw [ext_bx]
        rfl
      · rw [if_neg h3]
        refine Ev.yes ?_ (Ev.ret _)
        rw [bx_data, beqL_eq]
        simpa using h3
end
end Go.Proofs.YtaphnbaiamnfpaaDoor.Ps
namespace Go.Proofs.YtaphnbaiamnfpaaDoor.Ps
set_option linter.unusedVariables false
set_option linter.unusedSimpArgs false
open Go Go.RowKit Px Lx

def fltX (f : Flt) : List X := [iX f.e, sX f.text, iX f.line, iX f.col]
def fine : List X := [iX 0, sX [], iX 0, iX 0]
def tokOut (acc : List Tok) : Except Flt (List Tok) → V
  | .ok l => V.tup [V.one (X.d (D.list 5 (toks (acc ++ l)))), V.agg fine]
  | .error f => V.tup [V.one (X.d (D.list 5 [])), V.agg (fltX f)]
theorem toks_app (a : List Tok) (t : Tok) : toks (a ++ [t]) = toks a ++ [[D.int IntKind.i64 t.kind, D.str (bx t.text), D.int IntKind.i64 t.n, D.int IntKind.i64 t.line, D.int IntKind.i64 t.col]] := by
  unfold toks; rw [List.map_append]; rfl
theorem tok_bad {l : List UInt8} {e : Int} {w : List UInt8} (h : Lx.tok l = .bad e w) : e ≠ 0 := by
  unfold Lx.tok at h
  split at h
  · split at h
    · cases h; decide
    · split at h <;> cases h
  · split at h
    · split at h
      · cases h; decide
      · cases h
    · split at h
      · cases h; decide
      · cases h
def push (acc : List Tok) (t : Tok) (r : Except Flt (List Tok)) : V := tokOut (acc ++ [t]) r
theorem tokOut_cons (acc : List Tok) (t : Tok) (r : Except Flt (List Tok)) : tokOut acc (match r with | .error f => .error f | .ok l => .ok (t :: l)) = tokOut (acc ++ [t]) r := by
  cases r with
  | error f => rfl
  | ok l => unfold tokOut; simp only [List.append_assoc, List.singleton_append]
theorem byte_no {c : UInt8} {n : Nat} (h : ¬ c.toNat = n) : (Int.ofNat c.toNat == Int.ofNat n) = false := by
  rw [beq_eq_false_iff_ne]
  intro e
  exact h (Int.ofNat.inj e)
theorem byte_yes {c : UInt8} {n : Nat} (h : c.toNat = n) : (Int.ofNat c.toNat == Int.ofNat n) = true := by rw [h]; simp
theorem add_wrap (a b : Nat) (h : a + b ≤ 2000000) : IntKind.wrap .i64 (Int.ofNat a + Int.ofNat b) = Int.ofNat (a + b) := by
  rw [wrap_in _ (by simp only [Int.ofNat_eq_natCast]; omega) (by simp only [Int.ofNat_eq_natCast]; omega)]
  simp
theorem col_wrap (i b : Nat) (h : b ≤ i) (h2 : i ≤ 1000000) : IntKind.wrap .i64 (IntKind.wrap .i64 (Int.ofNat i - Int.ofNat b) + 1) = Int.ofNat i - Int.ofNat b + 1 := by
  rw [wrap_in (Int.ofNat i - Int.ofNat b) (by simp only [Int.ofNat_eq_natCast]; omega) (by simp only [Int.ofNat_eq_natCast]; omega), wrap_in _ (by simp only [Int.ofNat_eq_natCast]; omega) (by simp only [Int.ofNat_eq_natCast]; omega)]
theorem L_comment_v1 (l : List UInt8) (hl : l.length ≤ 1000000) (acc : List Tok) (x1 x2 x4 : Int) (s5 : ByteArray) (x6 x7 : Int) (Γ : Bool → SemL) (m0 n0 : Nat) (o : Option Out) : ∀ (d i : Nat), i ≤ l.length → l.length - i = d →
    l17_0_v1 m0 Γ n0 (bx l) (toks acc) x1 x2 (Int.ofNat (i + ((l.drop i).takeWhile nnl).length)) x4 s5 x6 x7 = o → ∀ m, d < m → l17_1_v1 m Γ m0 n0 (bx l) (toks acc) x1 x2 (Int.ofNat i) x4 s5 x6 x7 = o := by
  intro d
  induction d with
  | zero =>
    intro i hi hd h m hm
    rw [List.drop_eq_nil_of_le (by omega)] at h
    obtain ⟨m, rfl⟩ : ∃ m', m = m' + 1 := ⟨m - 1, by omega⟩
    rw [l17_1_v1_eq, lt_no i _ (by rw [bx_size]; omega), cond_false, q17_3_v1_eq]
    exact h
  | succ d ih =>
    intro i hi hd h m hm
    obtain ⟨m, rfl⟩ : ∃ m', m = m' + 1 := ⟨m - 1, by omega⟩
    rcases drop_cases l i hi with ⟨e, _⟩ | ⟨hlt, c, t, hc, ht⟩
    · omega
    · have hb := get_bx l i c t hc
      rw [hc] at h
      rw [l17_1_v1_eq, lt_yes i _ (by rw [bx_size]; exact hlt), cond_true, show decide ((0 : Int) ≤ Int.ofNat i) = true from decide_eq_true (Int.natCast_nonneg i), Bool.true_and, cond_true, hb]
      by_cases hn : c.toNat = 10
      · rw [List.takeWhile_cons_of_neg (by simp [nnl, hn])] at h
        rw [bne, show (Int.ofNat c.toNat == 10) = true from byte_yes (n := 10) hn, Bool.not_true, cond_false, q17_3_v1_eq]
        exact h
      · rw [List.takeWhile_cons_of_pos (by simp [nnl, hn])] at h
        rw [bne, show (Int.ofNat c.toNat == 10) = false from byte_no (n := 10) hn, Bool.not_false, cond_true, q17_2_v1_eq, wrap_up i (by omega)]
        exact ih (i + 1) (by omega) (by omega) (by rw [ht]; simpa [Nat.add_assoc, Nat.add_comm 1] using h) m (by omega)
theorem L_scan_v1 (l : List UInt8) (hl : l.length ≤ 1000000) (x4 : Int) (s5 : ByteArray) (x6 x7 : Int) : ∀ (d i : Nat), l.length - i < d → i ≤ l.length → ∀ (acc : List Tok) (line : Nat) (b : Nat), b ≤ i → line ≤ i + 1 → acc.length ≤ i →
    Ev (fun m k n => l17_0_v1 m (Ak k) n (bx l) (toks acc) (Int.ofNat line) (Int.ofNat b) (Int.ofNat i) x4 s5 x6 x7) (RV (tokOut acc (scan (l.drop i) (Int.ofNat line) (Int.ofNat i - Int.ofNat b + 1)))) := by
  intro d
  induction d with
  | zero => intro i h; omega
  | succ d ih =>
    intro i hd hi acc line b hb hline ha
    refine Ev.step ?_
    simp only [l17_0_v1_eq]
    rcases drop_cases l i hi with ⟨e, hnil⟩ | ⟨hlt, c, t, hc, ht⟩
    · subst e
      rw [hnil, scan]
      refine Ev.no (lt_no _ _ (by rw [bx_size]; omega)) ?_
      simp only [q17_6_v1_eq, bx_size, col_wrap l.length b hb hl]
      refine Ev.yes (by rw [toks_len]; exact Nat.ble_eq_true_of_le (by show (acc.length + 1) * 49 ≤ _; omega)) (Ev.of fun m k n => ?_)
      show some _ = some (RV (V.tup [V.one (X.d (D.list 5 (toks (acc ++ [_])))), _]))
      rw [toks_app]
      rfl
    · have hget := get_bx l i c t hc
      refine Ev.yes (lt_yes i _ (by rw [bx_size]; exact hlt)) ?_
      simp only [q17_1_v1_eq, hget, wrap_up i (show i < 9223372036854775807 by omega), wrap_up line (show line < 9223372036854775807 by omega)]
      refine Ev.yes (in_range i _ (by rw [bx_size]; exact hlt)) ?_
      rw [hc, scan]
      have next : Ev (fun m k n => l17_0_v1 m (Ak k) n (bx l) (toks acc) (Int.ofNat line) (Int.ofNat b) (Int.ofNat (i + 1)) x4 s5 x6 x7) (RV (tokOut acc (scan t (Int.ofNat line) (Int.ofNat i - Int.ofNat b + 1 + 1)))) := by
        have := ih (i + 1) (by omega) (by omega) acc line b (by omega) (by omega) (by omega)
        rw [ht] at this
        have e1 : Int.ofNat (i + 1) - Int.ofNat b + 1 = Int.ofNat i - Int.ofNat b + 1 + 1 := by simp only [Int.ofNat_eq_natCast]; omega
        rw [e1] at this
        exact this
      by_cases h10 : c.toNat = 10
      · rw [if_pos h10]
        refine Ev.yes (byte_yes (n := 10) h10) ?_
        have := ih (i + 1) (by omega) (by omega) acc (line + 1) (i + 1) (by omega) (by omega) (by omega)
        rw [ht, Int.sub_self] at this
        exact this
      rw [if_neg h10]
      refine Ev.no (byte_no (n := 10) h10) ?_
      by_cases h32 : c.toNat = 32
      · rw [if_pos (by simp [ws, h32])]
        exact Ev.yes (byte_yes (n := 32) h32) next
      refine Ev.no (byte_no (n := 32) h32) ?_
      by_cases h9 : c.toNat = 9
      · rw [if_pos (by simp [ws, h9])]
        exact Ev.yes (byte_yes (n := 9) h9) next
      refine Ev.no (byte_no (n := 9) h9) ?_
      by_cases h13 : c.toNat = 13
      · rw [if_pos (by simp [ws, h13])]
        exact Ev.yes (byte_yes (n := 13) h13) next
      refine Ev.no (byte_no (n := 13) h13) ?_
      rw [if_neg (by simp [ws, h32, h9, h13])]
      by_cases h35 : c.toNat = 35
      · rw [if_pos h35]
        refine Ev.yes (byte_yes (n := 35) h35) ?_
        have hle : (t.takeWhile nnl).length ≤ t.length := (List.takeWhile_sublist nnl).length_le
        have htl : t.length = l.length - i - 1 := by
          have := congrArg List.length hc
          rw [List.length_drop, List.length_cons] at this
          omega
        have hdw : l.drop (i + 1 + (t.takeWhile nnl).length) = t.dropWhile nnl := by
          rw [← List.drop_drop, ht]
          have := List.takeWhile_append_dropWhile (p := nnl) (l := t)
          conv => lhs; rw [← this]
          rw [List.drop_append_of_le_length (by rw [this]; exact Nat.le_refl _) |>.trans (by rw [this])] <;> simp
        have := ih (i + 1 + (t.takeWhile nnl).length) (by omega) (by omega) acc line b (by omega) (by omega) (by omega)
        rw [hdw] at this
        have e1 : Int.ofNat (i + 1 + (t.takeWhile nnl).length) - Int.ofNat b + 1 = Int.ofNat i - Int.ofNat b + 1 + 1 + ((t.takeWhile nnl).length : Int) := by simp only [Int.ofNat_eq_natCast]; omega
        rw [e1] at this
        obtain ⟨K, hK⟩ := this
        refine ⟨K + l.length + 1, fun m k n h1 h2 h3 => ?_⟩
        refine L_comment_v1 l hl acc _ _ _ _ _ _ (Ak k) m n _ (l.length - i) i hi rfl ?_ m (by omega)
        rw [hc, List.takeWhile_cons_of_pos (by simp [nnl, h35]), List.length_cons]
        rw [show i + ((t.takeWhile nnl).length + 1) = i + 1 + (t.takeWhile nnl).length by omega]
        exact hK m k n (by omega) (by omega) (by omega)
      rw [if_neg h35]
      refine Ev.no (byte_no (n := 35) h35) ?_
      have hext : (bx l).extract (Int.toNat (Int.ofNat i)) (Int.toNat (Int.ofNat l.length)) = bx (c :: t) := by
        rw [ext_bx, ← hc]
        show bx ((l.take l.length).drop i) = _
        rw [List.take_length]
      simp only [q17_4_v1_eq, bx_size, hext]
      refine Ev.yes (by simp only [Int.ofNat_eq_natCast, Bool.and_eq_true, decide_eq_true_eq]; omega) ?_
      have hone := C_one (c :: t) (by simp) (by rw [← hc, List.length_drop]; omega)
      cases htok : Lx.tok (c :: t) with
      | bad e w =>
        rw [htok] at hone
        refine v_t2a5ISIIIoI hone (Ev.yes (by simpa using tok_bad htok) (Ev.of fun m k n => ?_))
        rw [col_wrap i b hb (by omega)]
        rfl
      | ok κ w n =>
        rw [htok] at hone
        refine v_t2a5ISIIIoI hone (Ev.no rfl ?_)
        have hw := tok_take htok
        have hwl : 1 ≤ w.length := by
          cases w with
          | nil => exact absurd rfl hw.2
          | cons => simp
        have hwle : w.length ≤ (c :: t).length := by
          have := congrArg List.length hw.1
          rw [List.length_take] at this
          omega
        have htl : (c :: t).length = l.length - i := by rw [← hc, List.length_drop]
        have hdr : l.drop (i + w.length) = t.drop (w.length - 1) := by
          rw [← List.drop_drop, hc]
          cases w with
          | nil => exact absurd rfl hw.2
          | cons a w' => rfl
        simp only [q17_5_v1_eq, bx_size, add_wrap i w.length (by omega), col_wrap i b hb (by omega : i ≤ 1000000)]
        show Ev _ (RV (tokOut acc (match scan (t.drop (w.length - 1)) (Int.ofNat line) (Int.ofNat i - Int.ofNat b + 1 + (w.length : Int)) with | .error f => .error f | .ok l => .ok (⟨κ, w, n, Int.ofNat line, Int.ofNat i - Int.ofNat b + 1⟩ :: l))))
        rw [tokOut_cons]
        have e1 : Int.ofNat (i + w.length) - Int.ofNat b + 1 = Int.ofNat i - Int.ofNat b + 1 + (w.length : Int) := by simp only [Int.ofNat_eq_natCast]; omega
        have := ih (i + w.length) (by omega) (by omega) (acc ++ [⟨κ, w, n, Int.ofNat line, Int.ofNat i - Int.ofNat b + 1⟩]) line b (by omega) (by omega) (by rw [List.length_append, List.length_singleton]; omega)
        rw [hdr, e1, toks_app] at this
        exact Ev.yes (by rw [toks_len]; exact Nat.ble_eq_true_of_le (by show (acc.length + 1) * 49 ≤ _; omega)) this
theorem L_comment (l : List UInt8) (hl : l.length ≤ 1000000) (x1 x2 x4 : Int) (s5 : ByteArray) (x6 x7 : Int) (Γ : Bool → SemL) (m0 n0 : Nat) (o : Option Out) : ∀ (d i : Nat), i ≤ l.length → l.length - i = d →
    l17_0 m0 Γ n0 (bx l) x1 x2 (Int.ofNat (i + ((l.drop i).takeWhile nnl).length)) x4 s5 x6 x7 = o → ∀ m, d < m → l17_1 m Γ m0 n0 (bx l) x1 x2 (Int.ofNat i) x4 s5 x6 x7 = o := by
  intro d
  induction d with
  | zero =>
    intro i hi hd h m hm
    rw [List.drop_eq_nil_of_le (by omega)] at h
    obtain ⟨m, rfl⟩ : ∃ m', m = m' + 1 := ⟨m - 1, by omega⟩
    rw [l17_1_eq, lt_no i _ (by rw [bx_size]; omega), cond_false, q17_3_eq]
    exact h
  | succ d ih =>
    intro i hi hd h m hm
    obtain ⟨m, rfl⟩ : ∃ m', m = m' + 1 := ⟨m - 1, by omega⟩
    rcases drop_cases l i hi with ⟨e, _⟩ | ⟨hlt, c, t, hc, ht⟩
    · omega
    · have hb := get_bx l i c t hc
      rw [hc] at h
      rw [l17_1_eq, lt_yes i _ (by rw [bx_size]; exact hlt), cond_true, show decide ((0 : Int) ≤ Int.ofNat i) = true from decide_eq_true (Int.natCast_nonneg i), Bool.true_and, cond_true, hb]
      by_cases hn : c.toNat = 10
      · rw [List.takeWhile_cons_of_neg (by simp [nnl, hn])] at h
        rw [bne, show (Int.ofNat c.toNat == 10) = true from byte_yes (n := 10) hn, Bool.not_true, cond_false, q17_3_eq]
        exact h
      · rw [List.takeWhile_cons_of_pos (by simp [nnl, hn])] at h
        rw [bne, show (Int.ofNat c.toNat == 10) = false from byte_no (n := 10) hn, Bool.not_false, cond_true, q17_2_eq, wrap_up i (by omega)]
        exact ih (i + 1) (by omega) (by omega) (by rw [ht]; simpa [Nat.add_assoc, Nat.add_comm 1] using h) m (by omega)
theorem L_scan (l : List UInt8) (hl : l.length ≤ 1000000) (x4 : Int) (s5 : ByteArray) (x6 x7 : Int) : ∀ (d i : Nat), l.length - i < d → i ≤ l.length → ∀ (line : Nat) (b : Nat), b ≤ i → line ≤ i + 1 → 
    Ev (fun m k n => l17_0 m (Ak k) n (bx l) (Int.ofNat line) (Int.ofNat b) (Int.ofNat i) x4 s5 x6 x7) (RV (tokOut [] (scan (l.drop i) (Int.ofNat line) (Int.ofNat i - Int.ofNat b + 1)))) := by
  intro d
  induction d with
  | zero => intro i h; omega
  | succ d ih =>
    intro i hd hi line b hb hline
    refine Ev.step ?_
    simp only [l17_0_eq]
    rcases drop_cases l i hi with ⟨e, hnil⟩ | ⟨hlt, c, t, hc, ht⟩
    · subst e
      rw [hnil, scan]
      refine Ev.no (lt_no _ _ (by rw [bx_size]; omega)) ?_
      simp only [q17_6_eq, bx_size, col_wrap l.length b hb hl]
      exact Ev.of fun m k n => rfl
    · have hget := get_bx l i c t hc
      refine Ev.yes (lt_yes i _ (by rw [bx_size]; exact hlt)) ?_
      simp only [q17_1_eq, hget, wrap_up i (show i < 9223372036854775807 by omega), wrap_up line (show line < 9223372036854775807 by omega)]
      refine Ev.yes (in_range i _ (by rw [bx_size]; exact hlt)) ?_
      rw [hc, scan]
      have next : Ev (fun m k n => l17_0 m (Ak k) n (bx l) (Int.ofNat line) (Int.ofNat b) (Int.ofNat (i + 1)) x4 s5 x6 x7) (RV (tokOut [] (scan t (Int.ofNat line) (Int.ofNat i - Int.ofNat b + 1 + 1)))) := by
        have := ih (i + 1) (by omega) (by omega) line b (by omega) (by omega)
        rw [ht] at this
        have e1 : Int.ofNat (i + 1) - Int.ofNat b + 1 = Int.ofNat i - Int.ofNat b + 1 + 1 := by simp only [Int.ofNat_eq_natCast]; omega
        rw [e1] at this
        exact this
      by_cases h10 : c.toNat = 10
      · rw [if_pos h10]
        refine Ev.yes (byte_yes (n := 10) h10) ?_
        have := ih (i + 1) (by omega) (by omega) (line + 1) (i + 1) (by omega) (by omega)
        rw [ht, Int.sub_self] at this
        exact this
      rw [if_neg h10]
      refine Ev.no (byte_no (n := 10) h10) ?_
      by_cases h32 : c.toNat = 32
      · rw [if_pos (by simp [ws, h32])]
        exact Ev.yes (byte_yes (n := 32) h32) next
      refine Ev.no (byte_no (n := 32) h32) ?_
      by_cases h9 : c.toNat = 9
      · rw [if_pos (by simp [ws, h9])]
        exact Ev.yes (byte_yes (n := 9) h9) next
      refine Ev.no (byte_no (n := 9) h9) ?_
      by_cases h13 : c.toNat = 13
      · rw [if_pos (by simp [ws, h13])]
        exact Ev.yes (byte_yes (n := 13) h13) next
      refine Ev.no (byte_no (n := 13) h13) ?_
      rw [if_neg (by simp [ws, h32, h9, h13])]
      by_cases h35 : c.toNat = 35
      · rw [if_pos h35]
        refine Ev.yes (byte_yes (n := 35) h35) ?_
        have hle : (t.takeWhile nnl).length ≤ t.length := (List.takeWhile_sublist nnl).length_le
        have htl : t.length = l.length - i - 1 := by
          have := congrArg List.length hc
          rw [List.length_drop, List.length_cons] at this
          omega
        have hdw : l.drop (i + 1 + (t.takeWhile nnl).length) = t.dropWhile nnl := by
          rw [← List.drop_drop, ht]
          have := List.takeWhile_append_dropWhile (p := nnl) (l := t)
          conv => lhs; rw [← this]
          rw [List.drop_append_of_le_length (by rw [this]; exact Nat.le_refl _) |>.trans (by rw [this])] <;> simp
        have := ih (i + 1 + (t.takeWhile nnl).length) (by omega) (by omega) line b (by omega) (by omega)
        rw [hdw] at this
        have e1 : Int.ofNat (i + 1 + (t.takeWhile nnl).length) - Int.ofNat b + 1 = Int.ofNat i - Int.ofNat b + 1 + 1 + ((t.takeWhile nnl).length : Int) := by simp only [Int.ofNat_eq_natCast]; omega
        rw [e1] at this
        obtain ⟨K, hK⟩ := this
        refine ⟨K + l.length + 1, fun m k n h1 h2 h3 => ?_⟩
        refine L_comment l hl _ _ _ _ _ _ (Ak k) m n _ (l.length - i) i hi rfl ?_ m (by omega)
        rw [hc, List.takeWhile_cons_of_pos (by simp [nnl, h35]), List.length_cons]
        rw [show i + ((t.takeWhile nnl).length + 1) = i + 1 + (t.takeWhile nnl).length by omega]
        exact hK m k n (by omega) (by omega) (by omega)
      rw [if_neg h35]
      refine Ev.no (byte_no (n := 35) h35) ?_
      have hext : (bx l).extract (Int.toNat (Int.ofNat i)) (Int.toNat (Int.ofNat l.length)) = bx (c :: t) := by
        rw [ext_bx, ← hc]
        show bx ((l.take l.length).drop i) = _
        rw [List.take_length]
      simp only [q17_4_eq, bx_size, hext]
      refine Ev.yes (by simp only [Int.ofNat_eq_natCast, Bool.and_eq_true, decide_eq_true_eq]; omega) ?_
      have hone := C_one (c :: t) (by simp) (by rw [← hc, List.length_drop]; omega)
      cases htok : Lx.tok (c :: t) with
      | bad e w =>
        rw [htok] at hone
        refine v_t2a5ISIIIoI hone (Ev.yes (by simpa using tok_bad htok) (Ev.of fun m k n => ?_))
        rw [col_wrap i b hb (by omega)]
        rfl
      | ok κ w n =>
        rw [htok] at hone
        refine v_t2a5ISIIIoI hone (Ev.no rfl ?_)
        have hw := tok_take htok
        have hwl : 1 ≤ w.length := by
          cases w with
          | nil => exact absurd rfl hw.2
          | cons => simp
        have hwle : w.length ≤ (c :: t).length := by
          have := congrArg List.length hw.1
          rw [List.length_take] at this
          omega
        have htl : (c :: t).length = l.length - i := by rw [← hc, List.length_drop]
        have hdr : l.drop (i + w.length) = t.drop (w.length - 1) := by
          rw [← List.drop_drop, hc]
          cases w with
          | nil => exact absurd rfl hw.2
          | cons a w' => rfl
        simp only [q17_5_eq, bx_size, add_wrap i w.length (by omega), col_wrap i b hb (by omega : i ≤ 1000000)]
        show Ev _ (RV (tokOut [] (match scan (t.drop (w.length - 1)) (Int.ofNat line) (Int.ofNat i - Int.ofNat b + 1 + (w.length : Int)) with | .error f => .error f | .ok l => .ok (⟨κ, w, n, Int.ofNat line, Int.ofNat i - Int.ofNat b + 1⟩ :: l))))
        rw [tokOut_cons]
        have e1 : Int.ofNat (i + w.length) - Int.ofNat b + 1 = Int.ofNat i - Int.ofNat b + 1 + (w.length : Int) := by simp only [Int.ofNat_eq_natCast]; omega
        have := L_scan_v1 l hl x4 s5 x6 x7 (l.length + 1) (i + w.length) (by omega) (by omega) [⟨κ, w, n, Int.ofNat line, Int.ofNat i - Int.ofNat b + 1⟩] line b (by omega) (by omega) (by simp only [List.length_singleton]; omega)
        rw [hdr, e1] at this
        exact this
theorem C_tokens (l : List UInt8) : Cal 17 [V.one (X.d (D.str (bx l)))] [] (RV (if 20000 < l.length then V.tup [V.one (X.d (D.list 5 [])), V.agg [iX 2, sX [], iX 0, iX 0]] else tokOut [] (scan l 1 1))) := by
  refine call17 _ ?_
  simp only [e17_eq, bx_size]
  by_cases h : 20000 < l.length
  · rw [if_pos h]
    exact Ev.yes (decide_eq_true (by show (20000 : Int) < Int.ofNat l.length; simp only [Int.ofNat_eq_natCast]; omega)) (Ev.ret _)
  · rw [if_neg h]
    refine Ev.no (decide_eq_false (by show ¬ (20000 : Int) < Int.ofNat l.length; simp only [Int.ofNat_eq_natCast]; omega)) ?_
    simp only [q17_0_eq]
    have := fun (x4 : Int) (s5 : ByteArray) (x6 x7 : Int) => L_scan l (by omega) x4 s5 x6 x7 (l.length + 1) 0 (by omega) (by omega) 1 0 (by omega) (by omega)
    exact Ev.diag (this _ _ _ _)
end Go.Proofs.YtaphnbaiamnfpaaDoor.Ps
namespace Go.Proofs.YtaphnbaiamnfpaaDoor.Ps
set_option linter.unusedVariables false
set_option linter.unusedSimpArgs false
open Go Go.RowKit Px
open Lx (Tok scan sm dg nm)

theorem bl (s w : List UInt8) : beqL (Array.toList (ByteArray.data (bx s))) (Array.toList (ByteArray.data (ByteArray.mk w.toArray))) = decide (s = w) := by
  rw [bx_data, beqL_eq]
  cases h : decide (s = w) with
  | true => rw [of_decide_eq_true h]; exact beq_self_eq_true _
  | false => exact beq_eq_false_iff_ne.2 (of_decide_eq_false h)
theorem bl0 (s : List UInt8) : beqL (Array.toList (ByteArray.data (bx s))) (Array.toList (ByteArray.data (ByteArray.mk #[]))) = decide (s = []) := bl s []
theorem bl2 (a b : List UInt8) : beqL (Array.toList (ByteArray.data (bx a))) (Array.toList (ByteArray.data (bx b))) = decide (a = b) := bl a b
theorem Ev.ifb {c : Bool} {F G : Nat → Nat → Nat → Option Out} {o : Out} (h1 : c = true → Ev F o) (h2 : c = false → Ev G o) : Ev (fun m k n => bif c then F m k n else G m k n) o := by
  cases c with
  | true => exact (h1 rfl).yes rfl
  | false => exact (h2 rfl).no rfl
theorem Ev.diag' {F : Nat → Nat → Nat → Option Out} {o : Out} (h : Ev F o) : Ev (fun _ k n => F n k n) o := h.diag
theorem Ev.of_eq {F G : Nat → Nat → Nat → Option Out} {o : Out} (e : ∀ m k n, F m k n = G m k n) (h : Ev G o) : Ev F o := Ev.eq h e
theorem Ev.out {F : Nat → Nat → Nat → Option Out} {o o' : Out} (h : Ev F o) (e : o = o') : Ev F o' := e ▸ h
abbrev YB (b : Bool) : Out := RV (V.one (bX b))
theorem Ev.rb {b b' : Bool} (e : b = b') : Ev (fun _ _ _ => some (Out.mk true (V.one (X.d (D.bool b))) D.junk [] 0)) (YB b') := e ▸ Ev.ret _
theorem Ev.ri {b b' : Int} (e : b = b') : Ev (fun _ _ _ => some (Out.mk true (V.one (X.d (D.int .i64 b))) D.junk [] 0)) (RV (V.one (iX b'))) := e ▸ Ev.ret _
abbrev nsV (s : List UInt8) : V := V.one (X.d (D.str (bx s)))
theorem len_beq (a b : Nat) : (Int.ofNat a == Int.ofNat b) = decide (a = b) := by
  rw [Bool.eq_iff_iff, beq_iff_eq, decide_eq_true_eq]
  exact ⟨fun h => Int.ofNat.inj h, fun h => by rw [h]⟩
theorem toks_two {ts : List Tok} (h : ts.length = 2) : toks ts = [Tok.row (tk ts 0), Tok.row (tk ts 1)] := by
  match ts, h with
  | [a, b], _ => rfl
theorem C_name (s : List UInt8) : Cal 27 [nsV s] [] (YB (isName s)) := by
  refine call27 _ ?_
  simp only [e27_eq]
  have ht := C_tokens s
  by_cases hl : 20000 < s.length
  · rw [if_pos hl] at ht
    refine v_t2oL5a4ISII ht (Ev.no rfl (Ev.rb ?_))
    unfold isName
    rw [decide_eq_false (by omega : ¬ s.length ≤ 24)]
    simp
  · rw [if_neg hl] at ht
    cases hs : scan s 1 1 with
    | error f =>
      rw [hs] at ht
      refine v_t2oL5a4ISII ht (Ev.no ?_ (Ev.rb ?_))
      · exact beq_eq_false_iff_ne.2 (Lx.scan_err s.length s 1 1 f (Nat.le_refl _) hs)
      · cases hn : isName s with
        | false => rfl
        | true =>
          obtain ⟨a, b, c, d, h⟩ := name_scan hn
          rw [hs] at h; cases h
    | ok ts =>
      rw [hs] at ht
      refine v_t2oL5a4ISII ht (Ev.yes rfl ?_)
      have e0 : toks ([] ++ ts) = toks ts := rfl
      by_cases h2 : ts.length = 2
      · have e1 : toks ([] ++ ts) = [Tok.row (tk ts 0), Tok.row (tk ts 1)] := toks_two h2
        simp only [e1]
        refine Ev.yes rfl (Ev.yes rfl (Ev.yes rfl ?_))
        show Ev (fun m k n => bif (tk ts 0).kind == 1 then _ else _) _
        refine Ev.ifb (fun hk => Ev.yes rfl (Ev.yes rfl ?_)) (fun hk => Ev.rb ?_)
        · refine Ev.rb ?_
          show beqL (bx (tk ts 0).text).data.toList (bx s).data.toList = _
          rw [bl2]
          cases hn : isName s with
          | true =>
            obtain ⟨a, b, c, d, h⟩ := name_scan hn
            rw [hs] at h
            cases h
            exact decide_eq_true rfl
          | false =>
            refine decide_eq_false fun e => ?_
            rw [name_of_scan hs (by omega) (by simpa using hk) e] at hn
            cases hn
        · cases hn : isName s with
          | false => rfl
          | true =>
            obtain ⟨a, b, c, d, h⟩ := name_scan hn
            rw [hs] at h
            cases h
            cases hk
      · refine Ev.no ?_ (Ev.rb ?_)
        · rw [e0, toks_len]
          exact (len_beq _ 2).trans (decide_eq_false h2)
        · cases hn : isName s with
          | false => rfl
          | true =>
            obtain ⟨a, b, c, d, h⟩ := name_scan hn
            rw [hs] at h
            cases h
            exact absurd rfl h2
theorem all_drop {α : Type} (p : α → Bool) (l : List α) (i : Nat) (h : i < l.length) : (l.drop i).all p = (p l[i] && (l.drop (i + 1)).all p) := by
  rw [List.drop_eq_getElem_cons h, List.all_cons]
theorem strs_at' (ns : List (List UInt8)) (i : Nat) (h : i < ns.length) : dat ((strs ns).getD i []) 0 = D.str (bx ns[i]) := by
  unfold strs
  rw [List.getD_eq_getElem?_getD, List.getElem?_map, List.getElem?_eq_getElem h]
  rfl
theorem strs_len' (ns : List (List UInt8)) : (strs ns).length = ns.length := List.length_map ..
theorem C_names (ns : List (List UInt8)) (hl : ns.length ≤ 9223372036854775807) : Cal 90 [V.one (X.d (D.list 1 (strs ns)))] [] (YB (ns.all isName)) := by
  refine call90 _ ?_
  simp only [e90_eq, strs_len']
  have key : ∀ (d i : Nat), i ≤ ns.length → ns.length - i = d → Ev (fun m k n => l90_0 m (Ak k) n (strs ns) (Int.ofNat ns.length) (Int.ofNat i)) (YB ((ns.drop i).all isName)) := by
    intro d
    induction d with
    | zero =>
      intro i hi hd
      rw [List.drop_eq_nil_of_le (by omega)]
      refine Ev.step ?_
      simp only [l90_0_eq]
      exact Ev.no (lt_no i _ (by omega)) (Ev.of fun m k n => by rw [q90_2_eq]; rfl)
    | succ d ih =>
      intro i hi hd
      have hlt : i < ns.length := by omega
      rw [all_drop _ _ _ hlt]
      refine Ev.step ?_
      simp only [l90_0_eq]
      refine Ev.yes (lt_yes i _ hlt) ?_
      have hat := strs_at' ns i hlt
      unfold dat at hat
      simp only [q90_0_eq, tn, hat]
      refine Ev.yes (in_range i _ (by rw [strs_len']; exact hlt)) ?_
      refine v_oB (C_name ns[i]) ?_
      cases hn : isName ns[i] with
      | false => exact Ev.yes rfl (Ev.rb rfl)
      | true =>
        refine Ev.no rfl ?_
        simp only [q90_1_eq, wrap_up i (show i < 9223372036854775807 by omega)]
        exact ih (i + 1) (by omega) (by omega)
  exact Ev.diag (key _ 0 (Nat.zero_le _) rfl)
theorem C_level (s : List UInt8) : Cal 89 [nsV s] [] (RV (V.one (iX (Int.ofNat (lvl s))))) := by
  refine call89 _ (Ev.of fun m k n => ?_)
  rw [e89_eq]
  simp only [q89_0_eq, q89_1_eq, q89_2_eq, q89_3_eq, q89_4_eq]
  simp only [bl s wOr, bl s wAnd, bl s wEqEq, bl s wLt, bl s wLe, bl s wCc, bl s wPl, bl s wMi, bl s wTi, bl s wSl, bl s wPc, bl s wNot, bl s wNeg]
  unfold lvl
  by_cases a1 : s = wOr
  · rw [decide_eq_true a1, if_pos a1]; rfl
  by_cases a2 : s = wAnd
  · rw [decide_eq_false a1, decide_eq_true a2, if_neg a1, if_pos a2]; rfl
  by_cases a3 : s = wEqEq ∨ s = wLt ∨ s = wLe
  · rw [decide_eq_false a1, decide_eq_false a2, if_neg a1, if_neg a2, if_pos a3]
    rcases a3 with rfl | rfl | rfl <;> rfl
  by_cases a4 : s = wCc
  · subst a4; rfl
  by_cases a5 : s = wPl ∨ s = wMi
  · rcases a5 with rfl | rfl <;> rfl
  by_cases a6 : s = wTi ∨ s = wSl ∨ s = wPc
  · rcases a6 with rfl | rfl | rfl <;> rfl
  by_cases a7 : s = wNot ∨ s = wNeg
  · rcases a7 with rfl | rfl <;> rfl
  rw [if_neg a1, if_neg a2, if_neg a3, if_neg a4, if_neg a5, if_neg a6, if_neg a7]
  simp only [not_or] at a3 a5 a6 a7
  rw [decide_eq_false a1, decide_eq_false a2, decide_eq_false a3.1, decide_eq_false a3.2.1, decide_eq_false a3.2.2, decide_eq_false a4, decide_eq_false a5.1, decide_eq_false a5.2, decide_eq_false a6.1, decide_eq_false a6.2.1, decide_eq_false a6.2.2, decide_eq_false a7.1, decide_eq_false a7.2]
  rfl
theorem C_rlevel (s : List UInt8) : Cal 91 [nsV s] [] (RV (V.one (iX (Int.ofNat (lvl s))))) := by
  refine call91 _ (Ev.of fun m k n => ?_)
  rw [e91_eq]
  simp only [q91_0_eq, q91_1_eq, q91_2_eq, q91_3_eq, q91_4_eq]
  simp only [bl s wOr, bl s wAnd, bl s wEqEq, bl s wLt, bl s wLe, bl s wCc, bl s wPl, bl s wMi, bl s wTi, bl s wSl, bl s wPc, bl s wNot, bl s wNeg]
  unfold lvl
  by_cases a1 : s = wOr
  · rw [decide_eq_true a1, if_pos a1]; rfl
  by_cases a2 : s = wAnd
  · rw [decide_eq_false a1, decide_eq_true a2, if_neg a1, if_pos a2]; rfl
  by_cases a3 : s = wEqEq ∨ s = wLt ∨ s = wLe
  · rw [decide_eq_false a1, decide_eq_false a2, if_neg a1, if_neg a2, if_pos a3]
    rcases a3 with rfl | rfl | rfl <;> rfl
  by_cases a4 : s = wCc
  · subst a4; rfl
  by_cases a5 : s = wPl ∨ s = wMi
  · rcases a5 with rfl | rfl <;> rfl
  by_cases a6 : s = wTi ∨ s = wSl ∨ s = wPc
  · rcases a6 with rfl | rfl | rfl <;> rfl
  by_cases a7 : s = wNot ∨ s = wNeg
  · rcases a7 with rfl | rfl <;> rfl
  rw [if_neg a1, if_neg a2, if_neg a3, if_neg a4, if_neg a5, if_neg a6, if_neg a7]
  simp only [not_or] at a3 a5 a6 a7
  rw [decide_eq_false a1, decide_eq_false a2, decide_eq_false a3.1, decide_eq_false a3.2.1, decide_eq_false a3.2.2, decide_eq_false a4, decide_eq_false a5.1, decide_eq_false a5.2, decide_eq_false a6.1, decide_eq_false a6.2.1, decide_eq_false a6.2.2, decide_eq_false a7.1, decide_eq_false a7.2]
  rfl
end Go.Proofs.YtaphnbaiamnfpaaDoor.Ps
namespace Go.Proofs.YtaphnbaiamnfpaaDoor.Ps
set_option linter.unusedVariables false
set_option linter.unusedSimpArgs false
set_option maxRecDepth 4000
open Go Go.RowKit Px
open Lx (Tok scan sm dg nm has wordList has_yes has_no)

theorem C_rsmall (c : UInt8) : Cal 51 [V.one (X.d (D.int IntKind.u8 (Int.ofNat c.toNat)))] [] (RV (V.one (bX (sm c)))) := by
  refine call51 _ (Ev.of fun m k n => ?_)
  rw [e51_eq]
  unfold sm
  have e1 : decide (Int.ofNat c.toNat ≥ 97) = decide (97 ≤ c.toNat) := decide_eq_decide.2 (by simp only [Int.ofNat_eq_natCast]; omega)
  have e2 : decide (Int.ofNat c.toNat ≤ 122) = decide (c.toNat ≤ 122) := decide_eq_decide.2 (by simp only [Int.ofNat_eq_natCast]; omega)
  rw [e1, e2]
  cases decide (97 ≤ c.toNat) <;> rfl
theorem C_rdigit (c : UInt8) : Cal 53 [V.one (X.d (D.int IntKind.u8 (Int.ofNat c.toNat)))] [] (RV (V.one (bX (dg c)))) := by
  refine call53 _ (Ev.of fun m k n => ?_)
  rw [e53_eq]
  unfold dg
  have e1 : decide (Int.ofNat c.toNat ≥ 48) = decide (48 ≤ c.toNat) := decide_eq_decide.2 (by simp only [Int.ofNat_eq_natCast]; omega)
  have e2 : decide (Int.ofNat c.toNat ≤ 57) = decide (c.toNat ≤ 57) := decide_eq_decide.2 (by simp only [Int.ofNat_eq_natCast]; omega)
  rw [e1, e2]
  cases decide (48 ≤ c.toNat) <;> rfl
theorem beqL_bx' (a b : List UInt8) : beqL (bx a).data.toList (bx b).data.toList = (a == b) := by
  rw [bx_data, bx_data, beqL_eq]
theorem C_rword (w : List UInt8) : Cal 52 [V.one (X.d (D.str (bx w)))] [] (RV (V.one (bX (Lx.isWord w)))) := by
  have hw : Cal 88 [] [] (RV (V.one (X.d (D.list 1 (strs wordList))))) := by
    refine call88 ?_
    simp only [e88_eq]
    exact Ev.ret _
  have key : ∀ (d i : Nat), i ≤ 21 → 21 - i = d → Ev (fun m k n => l52_0 m (Ak k) n (bx w) (strs wordList) (Int.ofNat i)) (RV (V.one (bX (has (wordList.drop i) w)))) := by
    intro d
    induction d with
    | zero =>
      intro i hi hd
      obtain rfl : i = 21 := by omega
      refine Ev.step ?_
      simp only [l52_0_eq]
      exact Ev.no rfl (Ev.of fun m k n => by rw [q52_2_eq]; rfl)
    | succ d ih =>
      intro i hi hd
      have hlt : i < wordList.length := by show i < 21; omega
      have hat : (strs wordList).getD i [] = [D.str (bx wordList[i])] := by
        unfold strs
        rw [rows_getD _ _ _ hlt, List.getD_eq_getElem?_getD, List.getElem?_eq_getElem hlt]
        rfl
      have hdr : wordList.drop i = wordList[i] :: wordList.drop (i + 1) := List.drop_eq_getElem_cons hlt
      refine Ev.step ?_
      simp only [l52_0_eq]
      refine Ev.yes (lt_yes i 21 (by omega)) ?_
      simp only [q52_0_eq, tn, hat]
      refine Ev.yes (in_range i _ (by rw [show (strs wordList).length = 21 from rfl]; omega)) (Ev.yes rfl ?_)
      show Ev (fun m k n => bif beqL (bx wordList[i]).data.toList (bx w).data.toList then _ else _) _
      rw [beqL_bx', hdr]
      by_cases h : wordList[i]'hlt = w
      · refine Ev.yes (by simpa using h) (Ev.of fun m k n => ?_)
        rw [has_yes _ h.symm]
      · refine Ev.no (by simpa using h) ?_
        rw [has_no _ (fun e => h e.symm)]
        simp only [q52_1_eq, wrap_up i (show i < 9223372036854775807 by omega)]
        exact ih (i + 1) (by omega) (by omega)
  refine call52 _ ?_
  simp only [e52_eq]
  exact v_oL1 hw (Ev.diag (key 21 0 (by omega) rfl))
theorem C_rname (s : List UInt8) : Cal 30 [nsV s, V.one (bX false)] [] (YB (isName s)) := by
  refine call30 _ _ ?_
  simp only [e30_eq, bl0, bx_size]
  cases s with
  | nil => exact Ev.yes rfl (Ev.rb rfl)
  | cons c t =>
    refine Ev.no rfl (Ev.yes ?_ ?_)
    · rw [Bool.true_and]; exact decide_eq_true (by simp only [Int.ofNat_eq_natCast, List.length_cons]; omega)
    rw [get_bx0 c t]
    refine v_oB (C_rsmall c) ?_
    have en : isName (c :: t) = (sm c && ((c :: t).all nm && (decide ((c :: t).length ≤ 24) && !Lx.isWord (c :: t)))) := by
      unfold isName
      rw [show List.headD (c :: t) 0 = c from rfl, Bool.and_assoc, Bool.and_assoc]
    rw [en]
    cases hsm : sm c with
    | false => exact Ev.yes rfl (Ev.rb rfl)
    | true =>
      refine Ev.no rfl (v_oB (C_rword (c :: t)) ?_)
      cases hw : Lx.isWord (c :: t) with
      | true => exact Ev.yes rfl (Ev.rb (by simp))
      | false =>
        refine Ev.no rfl (Ev.yes rfl ?_)
        by_cases h24 : (c :: t).length ≤ 24
        · refine Ev.no (decide_eq_false (by simp only [Int.ofNat_eq_natCast]; omega)) ?_
          rw [decide_eq_true h24]
          simp only [Bool.not_false, Bool.and_true, Bool.true_and]
          generalize c :: t = l at *
          have key : ∀ (d i : Nat), i ≤ l.length → l.length - i = d → Ev (fun m k n => l30_0 m (Ak k) n (bx l) (Int.ofNat i)) (YB ((l.drop i).all nm)) := by
            intro d
            induction d with
            | zero =>
              intro i hi hd
              rw [List.drop_eq_nil_of_le (by omega)]
              refine Ev.step ?_
              simp only [l30_0_eq, bx_size]
              exact Ev.no (lt_no i _ (by omega)) (Ev.of fun m k n => by rw [q30_3_eq]; rfl)
            | succ d ih =>
              intro i hi hd
              have hlt : i < l.length := by omega
              obtain ⟨x, u, hx⟩ : ∃ x u, l.drop i = x :: u := by
                cases hq : l.drop i with
                | nil => have := congrArg List.length hq; rw [List.length_drop, List.length_nil] at this; omega
                | cons x u => exact ⟨x, u, rfl⟩
              have hu : l.drop (i + 1) = u := by rw [← List.drop_drop, hx]; rfl
              have hb := get_bx l i x u hx
              have h1 := ih (i + 1) (by omega) (by omega)
              rw [hu] at h1
              rw [hx, List.all_cons]
              refine Ev.step ?_
              simp only [l30_0_eq, bx_size]
              refine Ev.yes (lt_yes i _ hlt) ?_
              simp only [q30_1_eq, bx_size, hb]
              refine Ev.yes (in_range i _ hlt) (v_oB (C_rsmall x) ?_)
              have goOn : nm x = true → Ev (fun m k n => q30_2 (Ak k) m n (bx l) (Int.ofNat i)) (YB (nm x && u.all nm)) := fun hn => by
                simp only [q30_2_eq, wrap_up i (show i < 9223372036854775807 by omega)]
                rw [hn, Bool.true_and]
                exact h1
              unfold nm at goOn ⊢
              cases hs1 : sm x with
              | true =>
                rw [hs1] at goOn
                exact Ev.no rfl (goOn rfl)
              | false =>
                rw [hs1] at goOn
                refine Ev.yes rfl (Ev.yes (in_range i _ hlt) (v_oB (C_rdigit x) ?_))
                cases hd1 : dg x with
                | true =>
                  rw [hd1] at goOn
                  exact Ev.no rfl (goOn rfl)
                | false =>
                  rw [hd1] at goOn
                  refine Ev.yes rfl (Ev.yes (in_range i _ hlt) ?_)
                  have e95 : (Int.ofNat x.toNat != 95) = !decide (x.toNat = 95) := congrArg (!·) (len_beq x.toNat 95)
                  rw [e95]
                  cases h9 : decide (x.toNat = 95) with
                  | true =>
                    rw [h9] at goOn
                    exact Ev.no rfl (goOn rfl)
                  | false => exact Ev.yes rfl (Ev.rb rfl)
          exact Ev.of_eq (fun m k n => q30_0_eq _ _ _) (Ev.diag (key _ 0 (Nat.zero_le _) rfl))
        · refine Ev.yes (decide_eq_true (by simp only [Int.ofNat_eq_natCast]; omega)) (Ev.rb ?_)
          rw [decide_eq_false h24]
          simp
end Go.Proofs.YtaphnbaiamnfpaaDoor.Ps
namespace Go.Proofs.YtaphnbaiamnfpaaDoor.Ps
set_option linter.unusedVariables false
set_option linter.unusedSimpArgs false
set_option maxRecDepth 4000
open Go Go.RowKit Px
open Lx (Tok scan sm dg nm)

theorem ints_at' (os : List Int) (i : Nat) (h : i < os.length) : dat ((ints os).getD i []) 0 = D.int .i64 os[i] := by
  unfold ints
  rw [List.getD_eq_getElem?_getD, List.getElem?_map, List.getElem?_eq_getElem h]
  rfl
theorem ints_len' (os : List Int) : (ints os).length = os.length := List.length_map ..
theorem E.rows_len (a : List E) : (E.rows a).length = a.length := by rw [E.rows_map, List.length_map]
theorem E.rows_at (ks : List E) (i : Nat) (h : i < ks.length) : (E.rows ks).getD i [] = E.row ks[i] := by
  have : Inhabited E := ⟨.mk 0 0 [] [] [] [] 0 0⟩
  rw [E.rows_map, rows_getD _ _ _ h, List.getD_eq_getElem?_getD, List.getElem?_eq_getElem h]
  rfl
theorem C_rnames (ns : List (List UInt8)) (hl : ns.length ≤ 9223372036854775807) : Cal 92 [V.one (X.d (D.list 1 (strs ns)))] [] (YB (ns.all isName)) := by
  refine call92 _ ?_
  simp only [e92_eq]
  have key : ∀ (d i : Nat), i ≤ ns.length → ns.length - i = d → Ev (fun m k n => l92_0 m (Ak k) n (strs ns) (Int.ofNat i)) (YB ((ns.drop i).all isName)) := by
    intro d
    induction d with
    | zero =>
      intro i hi hd
      rw [List.drop_eq_nil_of_le (by omega)]
      refine Ev.step ?_
      simp only [l92_0_eq, strs_len']
      exact Ev.no (lt_no i _ (by omega)) (Ev.of fun m k n => by rw [q92_2_eq]; rfl)
    | succ d ih =>
      intro i hi hd
      have hlt : i < ns.length := by omega
      rw [all_drop _ _ _ hlt]
      refine Ev.step ?_
      simp only [l92_0_eq, strs_len']
      refine Ev.yes (lt_yes i _ hlt) ?_
      have hat := strs_at' ns i hlt
      unfold dat at hat
      simp only [q92_0_eq, tn, hat]
      refine Ev.yes (in_range i _ (by rw [strs_len']; exact hlt)) ?_
      refine v_oB (C_rname ns[i]) ?_
      cases hn : isName ns[i] with
      | false => exact Ev.yes rfl (Ev.rb rfl)
      | true =>
        refine Ev.no rfl ?_
        simp only [q92_1_eq, wrap_up i (show i < 9223372036854775807 by omega)]
        exact ih (i + 1) (by omega) (by omega)
  exact Ev.diag (key _ 0 (Nat.zero_le _) rfl)
theorem C_within (os : List Int) (hl : os.length ≤ 9223372036854775807) (lo : Int) : Cal 93 [V.one (X.d (D.list 1 (ints os))), V.one (iX lo), V.one (iX 2147483647)] [] (YB (os.all (inO lo))) := by
  refine call93 _ _ _ ?_
  simp only [e93_eq]
  have key : ∀ (d i : Nat), i ≤ os.length → os.length - i = d → Ev (fun m k n => l93_0 m (Ak k) n (ints os) lo 2147483647 (Int.ofNat i)) (YB ((os.drop i).all (inO lo))) := by
    intro d
    induction d with
    | zero =>
      intro i hi hd
      rw [List.drop_eq_nil_of_le (by omega)]
      refine Ev.step ?_
      simp only [l93_0_eq, ints_len']
      exact Ev.no (lt_no i _ (by omega)) (Ev.of fun m k n => by rw [q93_2_eq]; rfl)
    | succ d ih =>
      intro i hi hd
      have hlt : i < os.length := by omega
      rw [all_drop _ _ _ hlt]
      refine Ev.step ?_
      simp only [l93_0_eq, ints_len']
      refine Ev.yes (lt_yes i _ hlt) ?_
      have hat := ints_at' os i hlt
      unfold dat at hat
      simp only [q93_0_eq, tn, hat, ints_len']
      refine Ev.yes (in_range i _ hlt) (Ev.yes rfl ?_)
      show Ev (fun m k n => bif decide (os[i] < lo) then _ else _) _
      unfold inO
      by_cases h1 : os[i] < lo
      · refine Ev.yes (decide_eq_true h1) (Ev.rb ?_)
        rw [decide_eq_false (by omega)]; rfl
      · refine Ev.no (decide_eq_false h1) (Ev.yes (in_range i _ hlt) (Ev.yes rfl ?_))
        show Ev (fun m k n => bif decide (os[i] > 2147483647) then _ else _) _
        rw [decide_eq_true (show lo ≤ os[i] by omega)]
        by_cases h2 : os[i] > 2147483647
        · refine Ev.yes (decide_eq_true h2) (Ev.rb ?_)
          rw [decide_eq_false (by omega)]; rfl
        · refine Ev.no (decide_eq_false h2) ?_
          rw [decide_eq_true (show os[i] ≤ 2147483647 by omega)]
          simp only [q93_1_eq, wrap_up i (show i < 9223372036854775807 by omega)]
          exact ih (i + 1) (by omega) (by omega)
  exact Ev.diag (key _ 0 (Nat.zero_le _) rfl)
/-! ### Looks, in one form -/
theorem z0 {α : Type} (l : List α) : (Int.ofNat l.length == 0) = l.isEmpty := by
  cases l with
  | nil => rfl
  | cons a r => rfl
theorem i_beq (a b : Int) : (a == b) = decide (a = b) := by
  rw [Bool.eq_iff_iff, beq_iff_eq, decide_eq_true_eq]
theorem bl0' (s : List UInt8) : beqL (bx s).data.toList [] = s.isEmpty := by
  rw [bx_data, beqL_eq]; cases s <;> rfl
theorem e_nil (s : List UInt8) : decide (s = []) = s.isEmpty := by cases s <;> rfl
/-- Short lists and texts. -/
structure ShortE (ns : List (List UInt8)) (os : List Int) : Prop where
  hns : ns.length ≤ 9223372036854775807
  hos : os.length ≤ 9223372036854775807
theorem C_shaped (k n : Int) (s : List UInt8) (ns : List (List UInt8)) (os : List Int) (ks : List E) (a b : Int) (h : ShortE ns os) : Cal 56 [eV (.mk k n s ns os ks a b)] [] (YB (shaped k n s ns os ks.length)) := by
  refine call56 _ _ _ _ _ _ _ _ ?_
  simp only [E.k, E.n, E.name, E.names, E.odds, E.kids, E.line, E.col]
  simp only [e56_eq, q56_0_eq, strs_len', ints_len', E.rows_len, z0, bl0', bl0, e_nil]
  have c1 := C_rname s
  have c2 := C_rlevel s
  have c3 := C_rnames ns h.hns
  have c4 := C_within os h.hos
  have kk : ∀ κ : Int, k ≠ κ → (k == κ) = false := fun κ hk => beq_false_of_ne hk
  unfold shaped
  have leafS : ∀ (F : Nat → Nat → Nat → Option Out) (x y : Bool), Ev F (YB x) → x = y → Ev F (YB y) := fun F x y h e => e ▸ h
  by_cases k1 : k = 1
  · subst k1
    simp only [if_true, Int.reduceEq, if_false]
    clear kk
    repeat' first | (refine Ev.yes rfl ?_) | (refine Ev.no rfl ?_) | (refine v_oI c2 ?_) | (refine Ev.ifb (fun h => ?_) (fun h => ?_))
    all_goals first | (refine leafS _ _ _ (v_oB c1 (Ev.ret _)) ?_) | (refine leafS _ _ _ (v_oB c3 (Ev.ret _)) ?_) | (refine leafS _ _ _ (v_oB (c4 _) (Ev.ret _)) ?_) | (refine Ev.rb ?_)
    all_goals (clear c1 c2 c3 c4; simp_all [inO, i_beq])
    all_goals first | omega | (intros; omega) | (rw [Bool.eq_iff_iff]; simp only [Bool.and_eq_true, Bool.or_eq_true, decide_eq_true_eq]; omega) | done
  by_cases k2 : k = 2
  · subst k2
    simp only [if_true, Int.reduceEq, if_false]
    clear kk
    repeat' first | (refine Ev.yes rfl ?_) | (refine Ev.no rfl ?_) | (refine v_oI c2 ?_) | (refine Ev.ifb (fun h => ?_) (fun h => ?_))
    all_goals first | (refine leafS _ _ _ (v_oB c1 (Ev.ret _)) ?_) | (refine leafS _ _ _ (v_oB c3 (Ev.ret _)) ?_) | (refine leafS _ _ _ (v_oB (c4 _) (Ev.ret _)) ?_) | (refine Ev.rb ?_)
    all_goals (clear c1 c2 c3 c4; simp_all [inO, i_beq])
    all_goals first | omega | (intros; omega) | (rw [Bool.eq_iff_iff]; simp only [Bool.and_eq_true, Bool.or_eq_true, decide_eq_true_eq]; omega) | done
  by_cases k3 : k = 3
  · subst k3
    simp only [if_true, Int.reduceEq, if_false]
    clear kk
    repeat' first | (refine Ev.yes rfl ?_) | (refine Ev.no rfl ?_) | (refine v_oI c2 ?_) | (refine Ev.ifb (fun h => ?_) (fun h => ?_))
    all_goals first | (refine leafS _ _ _ (v_oB c1 (Ev.ret _)) ?_) | (refine leafS _ _ _ (v_oB c3 (Ev.ret _)) ?_) | (refine leafS _ _ _ (v_oB (c4 _) (Ev.ret _)) ?_) | (refine Ev.rb ?_)
    all_goals (clear c1 c2 c3 c4; simp_all [inO, i_beq])
    all_goals first | omega | (intros; omega) | (rw [Bool.eq_iff_iff]; simp only [Bool.and_eq_true, Bool.or_eq_true, decide_eq_true_eq]; omega) | done
  by_cases k4 : k = 4
  · subst k4
    simp only [if_true, Int.reduceEq, if_false]
    clear kk
    repeat' first | (refine Ev.yes rfl ?_) | (refine Ev.no rfl ?_) | (refine v_oI c2 ?_) | (refine Ev.ifb (fun h => ?_) (fun h => ?_))
    all_goals first | (refine leafS _ _ _ (v_oB c1 (Ev.ret _)) ?_) | (refine leafS _ _ _ (v_oB c3 (Ev.ret _)) ?_) | (refine leafS _ _ _ (v_oB (c4 _) (Ev.ret _)) ?_) | (refine Ev.rb ?_)
    all_goals (clear c1 c2 c3 c4; simp_all [inO, i_beq])
    all_goals first | omega | (intros; omega) | (rw [Bool.eq_iff_iff]; simp only [Bool.and_eq_true, Bool.or_eq_true, decide_eq_true_eq]; omega) | done
  by_cases k5 : k = 5
  · subst k5
    simp only [if_true, Int.reduceEq, if_false]
    clear kk
    repeat' first | (refine Ev.yes rfl ?_) | (refine Ev.no rfl ?_) | (refine v_oI c2 ?_) | (refine Ev.ifb (fun h => ?_) (fun h => ?_))
    all_goals first | (refine leafS _ _ _ (v_oB c1 (Ev.ret _)) ?_) | (refine leafS _ _ _ (v_oB c3 (Ev.ret _)) ?_) | (refine leafS _ _ _ (v_oB (c4 _) (Ev.ret _)) ?_) | (refine Ev.rb ?_)
    all_goals (clear c1 c2 c3 c4; simp_all [inO, i_beq])
    all_goals first | omega | (intros; omega) | (rw [Bool.eq_iff_iff]; simp only [Bool.and_eq_true, Bool.or_eq_true, decide_eq_true_eq]; omega) | done
  by_cases k6 : k = 6
  · subst k6
    simp only [if_true, Int.reduceEq, if_false]
    clear kk
    repeat' first | (refine Ev.yes rfl ?_) | (refine Ev.no rfl ?_) | (refine v_oI c2 ?_) | (refine Ev.ifb (fun h => ?_) (fun h => ?_))
    all_goals first | (refine leafS _ _ _ (v_oB c1 (Ev.ret _)) ?_) | (refine leafS _ _ _ (v_oB c3 (Ev.ret _)) ?_) | (refine leafS _ _ _ (v_oB (c4 _) (Ev.ret _)) ?_) | (refine Ev.rb ?_)
    all_goals (clear c1 c2 c3 c4; simp_all [inO, i_beq])
    all_goals first | omega | (intros; omega) | (rw [Bool.eq_iff_iff]; simp only [Bool.and_eq_true, Bool.or_eq_true, decide_eq_true_eq]; omega) | done
  by_cases k7 : k = 7
  · subst k7
    simp only [if_true, Int.reduceEq, if_false]
    clear kk
    repeat' first | (refine Ev.yes rfl ?_) | (refine Ev.no rfl ?_) | (refine v_oI c2 ?_) | (refine Ev.ifb (fun h => ?_) (fun h => ?_))
    all_goals first | (refine leafS _ _ _ (v_oB c1 (Ev.ret _)) ?_) | (refine leafS _ _ _ (v_oB c3 (Ev.ret _)) ?_) | (refine leafS _ _ _ (v_oB (c4 _) (Ev.ret _)) ?_) | (refine Ev.rb ?_)
    all_goals (clear c1 c2 c3 c4; simp_all [inO, i_beq])
    all_goals first | omega | (intros; omega) | (rw [Bool.eq_iff_iff]; simp only [Bool.and_eq_true, Bool.or_eq_true, decide_eq_true_eq]; omega) | done
  by_cases k8 : k = 8
  · subst k8
    simp only [if_true, Int.reduceEq, if_false]
    clear kk
    repeat' first | (refine Ev.yes rfl ?_) | (refine Ev.no rfl ?_) | (refine v_oI c2 ?_) | (refine Ev.ifb (fun h => ?_) (fun h => ?_))
    all_goals first | (refine leafS _ _ _ (v_oB c1 (Ev.ret _)) ?_) | (refine leafS _ _ _ (v_oB c3 (Ev.ret _)) ?_) | (refine leafS _ _ _ (v_oB (c4 _) (Ev.ret _)) ?_) | (refine Ev.rb ?_)
    all_goals (clear c1 c2 c3 c4; simp_all [inO, i_beq])
    all_goals first | omega | (intros; omega) | (rw [Bool.eq_iff_iff]; simp only [Bool.and_eq_true, Bool.or_eq_true, decide_eq_true_eq]; omega) | done
  by_cases k9 : k = 9
  · subst k9
    simp only [if_true, Int.reduceEq, if_false]
    clear kk
    repeat' first | (refine Ev.yes rfl ?_) | (refine Ev.no rfl ?_) | (refine v_oI c2 ?_) | (refine Ev.ifb (fun h => ?_) (fun h => ?_))
    all_goals first | (refine leafS _ _ _ (v_oB c1 (Ev.ret _)) ?_) | (refine leafS _ _ _ (v_oB c3 (Ev.ret _)) ?_) | (refine leafS _ _ _ (v_oB (c4 _) (Ev.ret _)) ?_) | (refine Ev.rb ?_)
    all_goals (clear c1 c2 c3 c4; simp_all [inO, i_beq])
    all_goals first | omega | (intros; omega) | (rw [Bool.eq_iff_iff]; simp only [Bool.and_eq_true, Bool.or_eq_true, decide_eq_true_eq]; omega) | done
  by_cases k10 : k = 10
  · subst k10
    simp only [if_true, Int.reduceEq, if_false]
    clear kk
    repeat' first | (refine Ev.yes rfl ?_) | (refine Ev.no rfl ?_) | (refine v_oI c2 ?_) | (refine Ev.ifb (fun h => ?_) (fun h => ?_))
    all_goals first | (refine leafS _ _ _ (v_oB c1 (Ev.ret _)) ?_) | (refine leafS _ _ _ (v_oB c3 (Ev.ret _)) ?_) | (refine leafS _ _ _ (v_oB (c4 _) (Ev.ret _)) ?_) | (refine Ev.rb ?_)
    all_goals (clear c1 c2 c3 c4; simp_all [inO, i_beq])
    all_goals first | omega | (intros; omega) | (rw [Bool.eq_iff_iff]; simp only [Bool.and_eq_true, Bool.or_eq_true, decide_eq_true_eq]; omega) | done
  by_cases k11 : k = 11
  · subst k11
    simp only [if_true, Int.reduceEq, if_false]
    clear kk
    repeat' first | (refine Ev.yes rfl ?_) | (refine Ev.no rfl ?_) | (refine v_oI c2 ?_) | (refine Ev.ifb (fun h => ?_) (fun h => ?_))
    all_goals first | (refine leafS _ _ _ (v_oB c1 (Ev.ret _)) ?_) | (refine leafS _ _ _ (v_oB c3 (Ev.ret _)) ?_) | (refine leafS _ _ _ (v_oB (c4 _) (Ev.ret _)) ?_) | (refine Ev.rb ?_)
    all_goals (clear c1 c2 c3 c4; simp_all [inO, i_beq])
    all_goals first | omega | (intros; omega) | (rw [Bool.eq_iff_iff]; simp only [Bool.and_eq_true, Bool.or_eq_true, decide_eq_true_eq]; omega) | done
  by_cases k12 : k = 12
  · subst k12
    simp only [if_true, Int.reduceEq, if_false]
    clear kk
    repeat' first | (refine Ev.yes rfl ?_) | (refine Ev.no rfl ?_) | (refine v_oI c2 ?_) | (refine Ev.ifb (fun h => ?_) (fun h => ?_))
    all_goals first | (refine leafS _ _ _ (v_oB c1 (Ev.ret _)) ?_) | (refine leafS _ _ _ (v_oB c3 (Ev.ret _)) ?_) | (refine leafS _ _ _ (v_oB (c4 _) (Ev.ret _)) ?_) | (refine Ev.rb ?_)
    all_goals (clear c1 c2 c3 c4; simp_all [inO, i_beq])
    all_goals first | omega | (intros; omega) | (rw [Bool.eq_iff_iff]; simp only [Bool.and_eq_true, Bool.or_eq_true, decide_eq_true_eq]; omega) | done
  by_cases k13 : k = 13
  · subst k13
    simp only [if_true, Int.reduceEq, if_false]
    clear kk
    repeat' first | (refine Ev.yes rfl ?_) | (refine Ev.no rfl ?_) | (refine v_oI c2 ?_) | (refine Ev.ifb (fun h => ?_) (fun h => ?_))
    all_goals first | (refine leafS _ _ _ (v_oB c1 (Ev.ret _)) ?_) | (refine leafS _ _ _ (v_oB c3 (Ev.ret _)) ?_) | (refine leafS _ _ _ (v_oB (c4 _) (Ev.ret _)) ?_) | (refine Ev.rb ?_)
    all_goals (clear c1 c2 c3 c4; simp_all [inO, i_beq])
    all_goals first | omega | (intros; omega) | (rw [Bool.eq_iff_iff]; simp only [Bool.and_eq_true, Bool.or_eq_true, decide_eq_true_eq]; omega) | done
  by_cases k14 : k = 14
  · subst k14
    simp only [if_true, Int.reduceEq, if_false]
    clear kk
    repeat' first | (refine Ev.yes rfl ?_) | (refine Ev.no rfl ?_) | (refine v_oI c2 ?_) | (refine Ev.ifb (fun h => ?_) (fun h => ?_))
    all_goals first | (refine leafS _ _ _ (v_oB c1 (Ev.ret _)) ?_) | (refine leafS _ _ _ (v_oB c3 (Ev.ret _)) ?_) | (refine leafS _ _ _ (v_oB (c4 _) (Ev.ret _)) ?_) | (refine Ev.rb ?_)
    all_goals (clear c1 c2 c3 c4; simp_all [inO, i_beq])
    all_goals first | omega | (intros; omega) | (rw [Bool.eq_iff_iff]; simp only [Bool.and_eq_true, Bool.or_eq_true, decide_eq_true_eq]; omega) | done
  by_cases k15 : k = 15
  · subst k15
    simp only [if_true, Int.reduceEq, if_false]
    clear kk
    repeat' first | (refine Ev.yes rfl ?_) | (refine Ev.no rfl ?_) | (refine v_oI c2 ?_) | (refine Ev.ifb (fun h => ?_) (fun h => ?_))
    all_goals first | (refine leafS _ _ _ (v_oB c1 (Ev.ret _)) ?_) | (refine leafS _ _ _ (v_oB c3 (Ev.ret _)) ?_) | (refine leafS _ _ _ (v_oB (c4 _) (Ev.ret _)) ?_) | (refine Ev.rb ?_)
    all_goals (clear c1 c2 c3 c4; simp_all [inO, i_beq])
    all_goals first | omega | (intros; omega) | (rw [Bool.eq_iff_iff]; simp only [Bool.and_eq_true, Bool.or_eq_true, decide_eq_true_eq]; omega) | done
  simp only [kk _ k1, kk _ k2, kk _ k3, kk _ k4, kk _ k5, kk _ k6, kk _ k7, kk _ k8, kk _ k9, kk _ k10, kk _ k11, kk _ k12, kk _ k13, kk _ k14, kk _ k15, cond_false]
  simp only [if_neg k1, if_neg k2, if_neg k3, if_neg k4, if_neg k5, if_neg k6, if_neg k7, if_neg k8, if_neg k9, if_neg k10, if_neg k11, if_neg k12, if_neg k13, if_neg k14, if_neg k15]
  repeat' first | (refine Ev.ifb (fun h => ?_) (fun h => ?_)) | (exact Ev.rb rfl)
end Go.Proofs.YtaphnbaiamnfpaaDoor.Ps
namespace Go.Proofs.YtaphnbaiamnfpaaDoor.Ps
set_option linter.unusedVariables false
set_option linter.unusedSimpArgs false
open Go Go.RowKit Px
open Lx (Tok)
theorem strs_len (a : List (List UInt8)) : (strs a).length = a.length := List.length_map ..
theorem ints_len (a : List Int) : (ints a).length = a.length := List.length_map ..
theorem T.rows_app (a : List T) (b : T) : T.rows (a ++ [b]) = T.rows a ++ [[D.int IntKind.i64 b.k, D.list 2 (T.rows b.l)]] := by
  rw [T.rows_map, T.rows_map, List.map_append, List.map_singleton, T.row_eq, T.rows_map]
theorem T.rows_len (a : List T) : (T.rows a).length = a.length := by rw [T.rows_map, List.length_map]
theorem T.rows_one (a : T) : T.rows [a] = [[D.int IntKind.i64 a.k, D.list 2 (T.rows a.l)]] := T.rows_app [] a
theorem roomy (n c : Nat) (hn : n ≤ 1000000) (hc : c ≤ 1000) : Nat.ble ((n + 1) * c) 140737488355328 = true := by
  have h1 : (n + 1) * c ≤ 1000001 * 1000 := Nat.mul_le_mul (by omega) hc
  exact Nat.ble_eq_true_of_le (by omega)
theorem T.rows_at (ks : List T) (i : Nat) (h : i < ks.length) : (T.rows ks).getD i [] = T.row ks[i] := by
  have : Inhabited T := ⟨.mk 0 []⟩
  rw [T.rows_map, rows_getD _ _ _ h, List.getD_eq_getElem?_getD, List.getElem?_eq_getElem h]
  rfl
def pX (p : Pg) : List X := [X.d (D.list 5 (Fld.rows p.inputs)), X.d (D.list 14 (Fnc.rows p.funs)), X.d (D.int IntKind.i64 p.query.k), X.d (D.int IntKind.i64 p.query.n), X.d (D.str (bx p.query.name)), X.d (D.list 1 (strs p.query.names)), X.d (D.list 1 (ints p.query.odds)), X.d (D.list 8 (E.rows p.query.kids)), X.d (D.int IntKind.i64 p.query.line), X.d (D.int IntKind.i64 p.query.col)]
def pV (p : Pg) : V := V.agg (pX p)
theorem Fld.rows_app (a : List Fld) (b : Fld) : Fld.rows (a ++ [b]) = Fld.rows a ++ [[D.str (bx b.name), D.int IntKind.i64 b.typ.k, D.list 2 (T.rows b.typ.l), D.int IntKind.i64 b.line, D.int IntKind.i64 b.col]] := by
  unfold Fld.rows; rw [List.map_append]; rfl
theorem Fld.rows_len (a : List Fld) : (Fld.rows a).length = a.length := List.length_map ..
theorem Fld.rows_one (b : Fld) : Fld.rows [b] = [[D.str (bx b.name), D.int IntKind.i64 b.typ.k, D.list 2 (T.rows b.typ.l), D.int IntKind.i64 b.line, D.int IntKind.i64 b.col]] := rfl
theorem Fnc.row_eq (f : Fnc) : Fnc.row f = [D.str (bx f.name), D.list 5 (Fld.rows f.params), D.int IntKind.i64 f.res.k, D.list 2 (T.rows f.res.l), D.int IntKind.i64 f.body.k, D.int IntKind.i64 f.body.n, D.str (bx f.body.name), D.list 1 (strs f.body.names), D.list 1 (ints f.body.odds), D.list 8 (E.rows f.body.kids), D.int IntKind.i64 f.body.line, D.int IntKind.i64 f.body.col, D.int IntKind.i64 f.line, D.int IntKind.i64 f.col] := by
  unfold Fnc.row; rw [E.row_eq]; rfl
theorem Fnc.rows_app (a : List Fnc) (f : Fnc) : Fnc.rows (a ++ [f]) = Fnc.rows a ++ [[D.str (bx f.name), D.list 5 (Fld.rows f.params), D.int IntKind.i64 f.res.k, D.list 2 (T.rows f.res.l), D.int IntKind.i64 f.body.k, D.int IntKind.i64 f.body.n, D.str (bx f.body.name), D.list 1 (strs f.body.names), D.list 1 (ints f.body.odds), D.list 8 (E.rows f.body.kids), D.int IntKind.i64 f.body.line, D.int IntKind.i64 f.body.col, D.int IntKind.i64 f.line, D.int IntKind.i64 f.col]] := by
  unfold Fnc.rows; rw [List.map_append, List.map_singleton, Fnc.row_eq]
theorem Fnc.rows_len (a : List Fnc) : (Fnc.rows a).length = a.length := List.length_map ..
theorem Fld.rows_at (ks : List Fld) (i : Nat) (h : i < ks.length) : (Fld.rows ks).getD i [] = Fld.row ks[i] := by
  have : Inhabited Fld := ⟨⟨[], .mk 0 [], 0, 0⟩⟩
  unfold Fld.rows
  rw [rows_getD _ _ _ h, List.getD_eq_getElem?_getD, List.getElem?_eq_getElem h]
  rfl
theorem Fnc.rows_at (ks : List Fnc) (i : Nat) (h : i < ks.length) : (Fnc.rows ks).getD i [] = Fnc.row ks[i] := by
  have : Inhabited Fnc := ⟨⟨[], [], .mk 0 [], .mk 0 0 [] [] [] [] 0 0, 0, 0⟩⟩
  unfold Fnc.rows
  rw [rows_getD _ _ _ h, List.getD_eq_getElem?_getD, List.getElem?_eq_getElem h]
  rfl
def fdV (f : Fld) : V := V.agg [X.d (D.str (bx f.name)), X.d (D.int IntKind.i64 f.typ.k), X.d (D.list 2 (T.rows f.typ.l)), X.d (D.int IntKind.i64 f.line), X.d (D.int IntKind.i64 f.col)]
theorem Fld.row_eq (f : Fld) : Fld.row f = [D.str (bx f.name), D.int IntKind.i64 f.typ.k, D.list 2 (T.rows f.typ.l), D.int IntKind.i64 f.line, D.int IntKind.i64 f.col] := rfl
def fncV (f : Fnc) : V := V.agg [X.d (D.str (bx f.name)), X.d (D.list 5 (Fld.rows f.params)), X.d (D.int IntKind.i64 f.res.k), X.d (D.list 2 (T.rows f.res.l)), X.d (D.int IntKind.i64 f.body.k), X.d (D.int IntKind.i64 f.body.n), X.d (D.str (bx f.body.name)), X.d (D.list 1 (strs f.body.names)), X.d (D.list 1 (ints f.body.odds)), X.d (D.list 8 (E.rows f.body.kids)), X.d (D.int IntKind.i64 f.body.line), X.d (D.int IntKind.i64 f.body.col), X.d (D.int IntKind.i64 f.line), X.d (D.int IntKind.i64 f.col)]
theorem E.rows_app (a : List E) (b : E) : E.rows (a ++ [b]) = E.rows a ++ [[D.int IntKind.i64 b.k, D.int IntKind.i64 b.n, D.str (bx b.name), D.list 1 (strs b.names), D.list 1 (ints b.odds), D.list 8 (E.rows b.kids), D.int IntKind.i64 b.line, D.int IntKind.i64 b.col]] := by
  rw [E.rows_map, E.rows_map, List.map_append, List.map_singleton, E.row_eq, E.rows_map]
theorem E.rows_one (b : E) : E.rows [b] = [[D.int IntKind.i64 b.k, D.int IntKind.i64 b.n, D.str (bx b.name), D.list 1 (strs b.names), D.list 1 (ints b.odds), D.list 8 (E.rows b.kids), D.int IntKind.i64 b.line, D.int IntKind.i64 b.col]] := E.rows_app [] b
theorem E.rows_cons (b : E) (r : List E) : E.rows (b :: r) = [D.int IntKind.i64 b.k, D.int IntKind.i64 b.n, D.str (bx b.name), D.list 1 (strs b.names), D.list 1 (ints b.odds), D.list 8 (E.rows b.kids), D.int IntKind.i64 b.line, D.int IntKind.i64 b.col] :: E.rows r := by
  rw [E.rows_map, List.map_cons, E.row_eq, E.rows_map r]
theorem E.rows_nil : E.rows [] = [] := by rw [E.rows]
def eX (e : E) : List X := [X.d (D.int IntKind.i64 e.k), X.d (D.int IntKind.i64 e.n), X.d (D.str (bx e.name)), X.d (D.list 1 (strs e.names)), X.d (D.list 1 (ints e.odds)), X.d (D.list 8 (E.rows e.kids)), X.d (D.int IntKind.i64 e.line), X.d (D.int IntKind.i64 e.col)]
end Go.Proofs.YtaphnbaiamnfpaaDoor.Ps
namespace Go.Proofs.YtaphnbaiamnfpaaDoor.Ps
set_option linter.unusedVariables false
set_option linter.unusedSimpArgs false
open Go Go.RowKit Go.Proofs

/-- How many cells a block has. -/
def cellsIn (w : World) (b : Nat) : Nat := match w.heap[b]? with | some (.cells cs _ _) => cs.size | _ => 0
def g0 (w : World) : G := ⟨w, cellsIn w, fun _ => none, fun _ => none, fun _ => False⟩
theorem entry0 (w : World) : Entry (g0 w) [] where
  blk := fun i x h => by cases h
  out := fun i _ => rfl
  inj := fun i j B h => by cases h
  lt := fun i B h => by cases h
  fresh := fun b h => by
    show cellsIn w b = 0
    have h' : w.heap.size ≤ b := h
    unfold cellsIn
    rw [Array.getElem?_eq_none h']
  live := fun κ h => by cases h
  own := fun κ e s u h => by cases h
  dist := fun κ κ' e s u e' s' u' b h => by cases h
  used := fun κ e s u h => by cases h
  us := fun _ h => h.elim
theorem since0 (w : World) : Since w (g0 w) := ⟨Below.refl _ _, fun b h => by
  rcases h with ⟨i, h⟩ | ⟨κ, e, s, u, h, _⟩ <;> cases h⟩
abbrev sV (s : ByteArray) : V := V.one (X.d (D.str s))
theorem law_calls {w : World} (hs : Sane w) {f : FuncId} {args : List V} {vs : List Value} (hv : RepVs (g0 w) args vs) (h : Cal f args [] (RV (V.one (bX true)))) :
    Calls Tryd.prog f vs.toArray w fun e w' => e = .returned (.bool true) ∧ Below w.heap.size w w' := by
  obtain ⟨k, hk⟩ := h
  refine (((Ak_ok hs k) f args [] _ (hk k k k (Nat.le_refl _) (Nat.le_refl _) (Nat.le_refl _))) (g0 w) vs (since0 w) (entry0 w) hv).2.mono ?_
  rintro e w' ⟨g', rfl, ho⟩
  obtain ⟨v, rfl, hr⟩ := ho.ok rfl
  rw [hr.bool_eq]
  refine ⟨rfl, ho.step.os, ho.step.tape, ho.step.output, ho.step.size, fun b hb => (ho.step.keep b hb (fun hm => ?_)).1⟩
  rcases hm with ⟨i, h⟩ | ⟨κ, e, s, u, h, _⟩ <;> cases h
/-- The wrap with the listed variables and the world's shape. -/
theorem returnsInHanded_both {H : Type} {enc : TypeId × Value → H} {a : Assume} {C : Checked} {os : Os} {f : FuncId} {fn : Func} {s : ChangeSpec} {conds : List PathCond} {apart fresh handsOn again : Bool} {X : World → Array Value → Prop}
    (hX : ∀ (w w' : World) (args : Array Value), w.heap = w'.heap → X w args → X w' args)
    (own : ownKnob C.prog.godebug = none) (started : os.Started) (noInit : C.prog.inits.idxOf? f = none) (hfn : C.prog.funcs[f]? = some fn)
    (witness : ∃ (w : World) (tape : Tape) (i : Input), w.os = os ∧ (w.forCall tape i).Shaped C.prog ∧ i.vars = [] ∧ Input.okWide C.prog (w.forCall tape i) .any w.heap.size f i ∧
      ((s.pre enc C.prog fn conds apart (w.forCall tape i).memory i.args ∧ X (w.forCall tape i).memory i.args) ∧ sizedMet enc C.prog fn (OpenSpec.ofChange s) apart (w.forCall tape i).memory i.args) ∧ a.holds C.prog (lone (Frame.enter C.prog f i.args .normal) [] (w.forCall tape i)))
    (contract : ∀ (W : World) (base : Nat) (args : Array Value) (ds gs : List (DataW H)) (before : List MemPlace),
      (∀ (j : Nat) t v, fn.params[j]? = some t → args[j]? = some v → Value.okWide C.prog W .any base t v) →
      DataW.Whole enc C.prog fn.params.toList s.vars apart W args.toList ds gs before →
      conds.all (PathCond.test C.prog ⟨fn.params.toList, ds, s.plain.varTypes C.prog, gs⟩) = true →
      (DataW.weightsEach C.prog (fn.params.toList ++ s.plain.varTypes C.prog) (ds ++ gs)).all (· ≤ reachBytes) = true → X W args → W.ShapedOpen C.prog →
      a.holds C.prog (lone (Frame.enter C.prog f args .normal) [] W) →
      Calls C.prog f args W fun e W' => ∃ v, e = .returned v ∧ s.post enc C.prog fn apart fresh handsOn again W args v W') :
    ReturnsInHanded a C os f .any (fun w args => (s.pre enc C.prog fn conds apart w args ∧ X w args) ∧ sizedMet enc C.prog fn (OpenSpec.ofChange s) apart w args) (s.post enc C.prog fn apart fresh handsOn again) := by
  refine returnsInHanded_of_calls own started noInit witness ?_
  intro w tape i _ hsh _ hok hpre hholds
  obtain ⟨_, _, _, fn', hfn', _, _, _, _, hval⟩ := hok
  have e : fn' = fn := Option.some.inj (hfn'.symm.trans hfn)
  subst e
  obtain ⟨⟨⟨ds, gs, before, hw, hc⟩, hx⟩, hz⟩ := hpre
  have hw' := DataW.Whole.of_heap (w' := w.forCall tape i) (by rfl) hw
  refine (contract (w.forCall tape i) w.heap.size i.args ds gs before hval hw' hc (hz.weights hw) (hX _ _ _ (by rfl) hx) hsh hholds).mono fun e W' ⟨v, he, hp⟩ => ?_
  subst he
  exact ChangeSpec.post_blind hp
end Go.Proofs.YtaphnbaiamnfpaaDoor.Ps
namespace Go.Proofs.YtaphnbaiamnfpaaDoor.Ps
set_option linter.unusedVariables false
set_option linter.unusedSimpArgs false
set_option maxRecDepth 100000
open Go Go.RowKit Px
theorem cell_lt {w : World} {b o : Nat} {v : Value} (h : w.cell? ⟨b, o, none⟩ = some v) : o < cellsIn w b := by
  unfold World.cell? at h
  unfold cellsIn
  split at h
  · rename_i cs _ _ hq
    rw [hq]
    have := (Array.getElem?_eq_some_iff.1 (show cs[o]? = some v from h)).1
    exact this
  · cases h
theorem choose_list' {α : Type} (Q : Nat → α → Prop) : ∀ n, (∀ i, i < n → ∃ a, Q i a) → ∃ xs : List α, xs.length = n ∧ ∀ i a, xs[i]? = some a → Q i a
  | 0, _ => ⟨[], rfl, fun i a h => by simp at h⟩
  | n + 1, h => by
    obtain ⟨xs, hl, hx⟩ := choose_list' Q n (fun i hi => h i (by omega))
    obtain ⟨a, ha⟩ := h n (by omega)
    refine ⟨xs ++ [a], by simp [hl], fun i b hb => ?_⟩
    by_cases hi : i < xs.length
    · rw [List.getElem?_append_left hi] at hb
      exact hx i b hb
    · rw [List.getElem?_append_right (by omega)] at hb
      obtain ⟨hlt, e⟩ := List.getElem?_eq_some_iff.1 hb
      have : i = n := by simp at hlt; omega
      subst this
      have : b = a := by simpa [hl] using e.symm
      rw [this]; exact ha
/-- A row of cells reads as a's row. -/
def RowRep {α : Type} (w : World) (sz : Nat) (row : α → List D) (a : α) (cs : List Value) : Prop :=
  cs.length = sz ∧ ∀ j, j < sz → RepD w (cellsIn w) (dat (row a) j) (cs.getD j undef)
theorem weightsAll_at {H : Type} {P : Program} {e : TypeId} : ∀ {l : List (DataW H)} {i : Nat} {d : DataW H}, (DataW.weightsAll P e l).all (· ≤ reachBytes) = true → l[i]? = some d → (d.weights P e).all (· ≤ reachBytes) = true
  | [], i, d, _, h => by simp at h
  | y :: r, 0, d, hw, h => by
    rw [DataW.weightsAll, List.all_append, Bool.and_eq_true] at hw
    obtain rfl : y = d := by simpa using h
    exact hw.1
  | y :: r, i + 1, d, hw, h => by
    rw [DataW.weightsAll, List.all_append, Bool.and_eq_true] at hw
    exact weightsAll_at hw.2 (by simpa using h)
theorem weightsEach_at {H : Type} {P : Program} : ∀ {ts : List TypeId} {l : List (DataW H)} {i : Nat} {t : TypeId} {d : DataW H}, (DataW.weightsEach P ts l).all (· ≤ reachBytes) = true → ts[i]? = some t → l[i]? = some d → (d.weights P t).all (· ≤ reachBytes) = true
  | [], l, i, t, d, _, h, _ => by simp at h
  | t' :: ts, [], i, t, d, _, _, h => by simp at h
  | t' :: ts, y :: r, 0, t, d, hw, h1, h => by
    rw [DataW.weightsEach, List.all_append, Bool.and_eq_true] at hw
    obtain rfl : y = d := by simpa using h
    obtain rfl : t' = t := by simpa using h1
    exact hw.1
  | t' :: ts, y :: r, i + 1, t, d, hw, h1, h => by
    rw [DataW.weightsEach, List.all_append, Bool.and_eq_true] at hw
    exact weightsEach_at hw.2 (by simpa using h1) (by simpa using h)
theorem struct_at {H : Type} {P : Program} {t : TypeId} {fs : Array Field} {xs : List (DataW H × List MemPlace)} {ps : List MemPlace} {i : Nat} {f : Field} {z : DataW H × List MemPlace} (hu : P.underlying t = some (.struct fs))
    (hw : (DataW.weights P t (.agg (xs.map (·.1)))).all (· ≤ reachBytes) = true) (hf : fs[i]? = some f) (hz : xs[i]? = some z) : (z.1.weights P f.type).all (· ≤ reachBytes) = true := by
  unfold DataW.weights at hw
  rw [hu] at hw
  exact weightsEach_at (i := i) hw (by simp [hf]) (by rw [List.getElem?_map, hz]; rfl)
section
variable {H : Type} {enc : TypeId × Value → H} {P : Program} {w : World} {base : Nat} {spare : Nat → Bool} {held : Bool}
theorem at_spot' {w : World} {a : Addr} {v : Value} (h : w.cell? a = some v) : a.spot = none := by
  unfold World.cell? at h
  split at h
  · cases hs : a.spot with
    | none => rfl
    | some k => rw [hs] at h; simp at h
  · cases h
theorem addr_at {a : Addr} (h : a.spot = none) (n : Nat) : a.add n = ⟨a.block, a.off + n, none⟩ := by
  obtain ⟨b, o, s⟩ := a
  cases h
  unfold Addr.add
  by_cases hz : n = 0
  · rw [if_pos hz, hz]; rfl
  · rw [if_neg hz]
/-- A slice whose elements read as rows. -/
theorem rep_slice {α : Type} {row : α → List D} {t e : TypeId} {sz fuel : Nat} {cs : List Value} {x : DataW H × List MemPlace} (hu : P.underlying t = some (.slice e)) (hc : P.cellsOf e = sz) (hsz : 0 < sz)
    (he : ∀ m, m < fuel → ∀ cs y, DataW.trod enc P w base spare held m e cs = some y → (y.1.weights P e).all (· ≤ reachBytes) = true → ∃ a : α, RowRep w sz row a cs) (h : DataW.trod enc P w base spare held fuel t cs = some x)
    (hw : (x.1.weights P t).all (· ≤ reachBytes) = true) (hbe : 0 < P.bytesOf e) :
    ∃ (l : List α) (v : Value), cs = [v] ∧ RepD w (cellsIn w) (.list sz (l.map row)) v ∧ l.length ≤ 140737488351232 := by
  rcases DataW.trod_slice hu h with ⟨rfl, _⟩ | ⟨a, len, cap, elems, rest, m, hm, rfl, hx, hb, hl, hmx, hlen, hel, _, _⟩
  · exact ⟨[], _, rfl, .nil sz none 0, by simp⟩
  · rw [hc] at hel
    rw [hx] at hw
    unfold DataW.weights at hw
    rw [hu] at hw
    simp only [List.all_cons, Bool.and_eq_true, decide_eq_true_eq, List.length_map, List.all_append] at hw
    obtain ⟨hw1, hw2, _⟩ := hw
    have hle : elems.length ≤ 140737488351232 := by
      have h3 : elems.length + rest.length ≤ (elems.length + rest.length) * P.bytesOf e := Nat.le_mul_of_pos_right _ hbe
      have h4 : reachBytes = 140737488351232 := rfl
      omega
    have hq : ∀ i, i < len → ∃ p : α, ∃ c : List Value, RowRep w sz row p c ∧ ∀ j, j < sz → w.cell? ((a.add (i * sz)).add j) = c[j]? := by
      intro i hi
      have h1 := hel i hi
      have h2 : elems[i]? = some (elems[i]'(by omega)) := List.getElem?_eq_getElem (by omega)
      rw [h2] at h1
      obtain ⟨cs', hcs, ht⟩ := Option.bind_eq_some_iff.1 h1
      obtain ⟨p, hp⟩ := he m (by omega) cs' _ ht (weightsAll_at hw2 (by rw [List.getElem?_map, h2]; rfl))
      obtain ⟨_, hcl, hat⟩ := World.cells?_some hcs
      exact ⟨p, cs', hp, hat⟩
    obtain ⟨xs, hxl, hxs⟩ := choose_list' _ len hq
    rcases Nat.eq_zero_or_pos len with h0 | h0
    · subst h0
      have : xs = [] := List.eq_nil_of_length_eq_zero hxl
      exact ⟨[], _, rfl, .nil sz (some a) cap, by simp⟩
    · have hval : ∀ i, i < len → ∃ c : List Value, RowRep w sz row (xs.getD i (xs[0]'(by omega))) c ∧ ∀ j, j < sz → w.cell? ((a.add (i * sz)).add j) = c[j]? := by
        intro i hi
        have := hxs i (xs[i]'(by omega)) (List.getElem?_eq_getElem (by omega))
        rw [List.getD_eq_getElem?_getD, List.getElem?_eq_getElem (by omega)]
        exact this
      have hsp : a.spot = none := by
        obtain ⟨c, hr, hat⟩ := hval 0 h0
        have h1 := hat 0 hsz
        rw [List.getElem?_eq_getElem (by rw [hr.1]; exact hsz)] at h1
        have := at_spot' h1
        unfold Addr.add at this
        simp at this
        exact this
      have cell : ∀ i j, i < len → j < sz → ∃ v, w.cell? ⟨a.block, a.off + (i * sz + j), none⟩ = some v ∧ RepD w (cellsIn w) (dat ((xs.map row).getD i []) j) v := by
        intro i j hi hj
        obtain ⟨c, hr, hat⟩ := hval i hi
        have h1 := hat j hj
        rw [addr_at hsp, addr_at rfl, List.getElem?_eq_getElem (by rw [hr.1]; exact hj)] at h1
        have h2 := hr.2 j hj
        have h3 : c.getD j undef = c[j]'(by rw [hr.1]; exact hj) := by
          rw [List.getD_eq_getElem?_getD, List.getElem?_eq_getElem (by rw [hr.1]; exact hj)]; rfl
        rw [h3] at h2
        have h4 : w.cell? ⟨a.block, a.off + i * sz + j, none⟩ = some (c[j]'(by rw [hr.1]; exact hj)) := h1
        rw [Nat.add_assoc] at h4
        refine ⟨_, h4, ?_⟩
        have e : (xs.map row).getD i [] = row (xs.getD i (xs[0]'(by omega))) := by
          rw [List.getD_eq_getElem?_getD, List.getElem?_map, List.getD_eq_getElem?_getD, List.getElem?_eq_getElem (by omega)]; rfl
        rw [e]
        exact h2
      have hcell : ∀ i j, i < len → j < sz → w.cell? ⟨a.block, a.off + (i * sz + j), none⟩ = some ((w.cell? ⟨a.block, a.off + (i * sz + j), none⟩).getD undef) := fun i j hi hj => by
        obtain ⟨v, hv, _⟩ := cell i j hi hj
        rw [hv]; rfl
      have hl2 : (xs.map row).length = len := by rw [List.length_map, hxl]
      have hrep : ∀ i j, i < len → j < sz → RepD w (cellsIn w) (dat ((xs.map row).getD i []) j) ((w.cell? ⟨a.block, a.off + (i * sz + j), none⟩).getD undef) := fun i j hi hj => by
        obtain ⟨v, hv, hr⟩ := cell i j hi hj
        rw [hv]; exact hr
      refine ⟨xs, _, rfl, ?_, by omega⟩
      obtain ⟨ab, ao, asp⟩ := a
      cases hsp
      have key := RepD.list (w := w) (φ := cellsIn w) sz (xs.map row) ab ao cap (fun i j => (w.cell? ⟨ab, ao + (i * sz + j), none⟩).getD undef) (by omega) (by
        rw [hl2]
        have h3 := cell_lt (hcell (len - 1) (sz - 1) (by omega) (by omega))
        have h4 : (len - 1) * sz + (sz - 1) + 1 = len * sz := by
          obtain ⟨n, rfl⟩ : ∃ n, len = n + 1 := ⟨len - 1, by omega⟩
          rw [Nat.add_sub_cancel, Nat.add_mul, Nat.one_mul]
          omega
        have h5 : ao + ((len - 1) * sz + (sz - 1)) < cellsIn w ab := h3
        omega) (by rw [hl2]; exact hcell) (by rw [hl2]; exact fun i j hi hj => (hrep i j hi hj).one) (by rw [hl2]; exact hrep)
      rw [hl2] at key
      exact key
end
end Go.Proofs.YtaphnbaiamnfpaaDoor.Ps
namespace Go.Proofs.YtaphnbaiamnfpaaDoor.Ps
set_option linter.unusedVariables false
set_option linter.unusedSimpArgs false
set_option maxRecDepth 4000
open Go Go.RowKit Px
open Lx (Tok scan sm dg nm)

def okO (k x : Int) : Bool := if x > 2147483647 then false else if x < 0 then (if k ≠ 15 then false else !decide (x < -2147483647)) else true
theorem okO_0 {k : Int} (h : k ≠ 15) : okO k = inO 0 := by
  funext x
  unfold okO inO
  by_cases h1 : x > 2147483647
  · rw [if_pos h1, decide_eq_false (by omega : ¬ x ≤ 2147483647), Bool.and_false]
  · rw [if_neg h1, decide_eq_true (by omega : x ≤ 2147483647), Bool.and_true]
    by_cases h2 : x < 0
    · rw [if_pos h2, if_pos h, decide_eq_false (by omega)]
    · rw [if_neg h2, decide_eq_true (by omega)]
theorem okO_15 : okO 15 = inO (-2147483647) := by
  funext x
  unfold okO inO
  by_cases h1 : x > 2147483647
  · rw [if_pos h1, decide_eq_false (by omega : ¬ x ≤ 2147483647), Bool.and_false]
  · rw [if_neg h1, decide_eq_true (by omega : x ≤ 2147483647), Bool.and_true]
    by_cases h2 : x < 0
    · rw [if_pos h2, if_neg (by decide)]
      by_cases h3 : x < -2147483647
      · rw [decide_eq_true h3, decide_eq_false (by omega)]; rfl
      · rw [decide_eq_false h3, decide_eq_true (by omega)]; rfl
    · rw [if_neg h2, decide_eq_true (by omega)]
/-- The last looks of all. -/
def fin (k n : Int) (s : List UInt8) (ns : List (List UInt8)) (os : List Int) (nk : Nat) (x0 x1 x2 : Int) (b3 b4 : Bool) : Bool :=
  os.all (okO k) && ((if k ≠ 1 ∧ k ≠ 2 then decide (n = 0) else b3) && ((if k ≠ 3 ∧ k ≠ 4 ∧ k ≠ 7 then s.isEmpty else b4) &&
    ((Int.ofNat nk == x0) && ((Int.ofNat os.length == x1) && ((Int.ofNat ns.length == x2) && ns.all isName)))))
section
variable (k n : Int) (s : List UInt8) (ns : List (List UInt8)) (os : List Int) (ks : List E) (a b : Int)
theorem Q_last (h : ShortE ns os) (x0 x1 x2 : Int) (b3 b4 : Bool) :
    Ev (fun _ k' m => q55_3 (Ak k') m x0 x1 x2 b3 b4 k n (bx s) (strs ns) (ints os) (E.rows ks) a b) (YB (os.all (okO k) && (b3 && (b4 && ((Int.ofNat ks.length == x0) && ((Int.ofNat os.length == x1) && ((Int.ofNat ns.length == x2) && ns.all isName))))))) := by
  have key : ∀ (d i : Nat), i ≤ os.length → os.length - i = d → Ev (fun m k' z => l55_0 m (Ak k') z x0 x1 x2 b3 b4 (ints os) (Int.ofNat os.length) (Int.ofNat i) k n (bx s) (strs ns) (ints os) (E.rows ks) a b)
      (YB ((os.drop i).all (okO k) && (b3 && (b4 && ((Int.ofNat ks.length == x0) && ((Int.ofNat os.length == x1) && ((Int.ofNat ns.length == x2) && ns.all isName))))))) := by
    intro d
    induction d with
    | zero =>
      intro i hi hd
      rw [List.drop_eq_nil_of_le (by omega)]
      refine Ev.step ?_
      simp only [l55_0_eq]
      refine Ev.no (lt_no i _ (by omega)) ?_
      simp only [q55_6_eq, strs_len', ints_len', E.rows_len, List.all_nil, Bool.true_and]
      refine Ev.ifb (fun h1 => ?_) (fun h1 => Ev.rb (by rw [h1]; rfl))
      rw [h1, Bool.true_and]
      refine Ev.ifb (fun h1 => ?_) (fun h1 => Ev.rb (by rw [h1]; rfl))
      rw [h1, Bool.true_and]
      refine Ev.ifb (fun h1 => ?_) (fun h1 => Ev.rb (by rw [h1]; rfl))
      rw [h1, Bool.true_and]
      refine Ev.ifb (fun h1 => ?_) (fun h1 => Ev.rb (by rw [h1]; rfl))
      rw [h1, Bool.true_and]
      refine Ev.ifb (fun h1 => ?_) (fun h1 => Ev.rb (by rw [h1]; rfl))
      rw [h1, Bool.true_and]
      exact v_oB (C_names ns h.hns) (Ev.ret _)
    | succ d ih =>
      intro i hi hd
      have hlt : i < os.length := by omega
      have hos := h.hos
      rw [all_drop _ _ _ hlt]
      refine Ev.step ?_
      simp only [l55_0_eq]
      refine Ev.yes (lt_yes i _ hlt) ?_
      have hat := ints_at' os i hlt
      unfold dat at hat
      simp only [q55_4_eq, tn, hat, ints_len']
      have next : okO k os[i] = true → Ev (fun m k' z => q55_5 (Ak k') m z x0 x1 x2 b3 b4 (ints os) (Int.ofNat os.length) (Int.ofNat i) k n (bx s) (strs ns) (ints os) (E.rows ks) a b)
          (YB (okO k os[i] && (os.drop (i + 1)).all (okO k) && (b3 && (b4 && ((Int.ofNat ks.length == x0) && ((Int.ofNat os.length == x1) && ((Int.ofNat ns.length == x2) && ns.all isName))))))) := fun hk => by
        simp only [q55_5_eq, wrap_up i (show i < 9223372036854775807 by omega)]
        rw [hk, Bool.true_and]
        exact ih (i + 1) (by omega) (by omega)
      refine Ev.yes (in_range i _ hlt) (Ev.yes rfl ?_)
      show Ev (fun m k' z => bif decide (os[i] > 2147483647) then _ else _) _
      refine Ev.ifb (fun h1 => Ev.rb ?_) (fun h1 => Ev.yes rfl ?_)
      · rw [show okO k os[i] = false by unfold okO; rw [if_pos (of_decide_eq_true h1)]]; rfl
      · have h1 := of_decide_eq_false h1
        show Ev (fun m k' z => bif decide (os[i] < 0) then _ else _) _
        refine Ev.ifb (fun h2 => ?_) (fun h2 => ?_)
        · have h2 := of_decide_eq_true h2
          refine Ev.ifb (fun h3 => Ev.rb ?_) (fun h3 => Ev.yes rfl ?_)
          · have h3 : k ≠ 15 := by simpa using h3
            rw [show okO k os[i] = false by unfold okO; rw [if_neg h1, if_pos h2, if_pos h3]]; rfl
          · have h3 : k = 15 := by simpa using h3
            show Ev (fun m k' z => bif decide (os[i] < -2147483647) then _ else _) _
            refine Ev.ifb (fun h4 => Ev.rb ?_) (fun h4 => next ?_)
            · rw [show okO k os[i] = false by unfold okO; rw [if_neg h1, if_pos h2, if_neg (fun e => e h3), h4]; rfl]; rfl
            · unfold okO; rw [if_neg h1, if_pos h2, if_neg (fun e => e h3), h4]; rfl
        · have h2 := of_decide_eq_false h2
          refine next ?_
          unfold okO; rw [if_neg h1, if_neg h2]
  simp only [q55_3_eq, ints_len']
  exact Ev.diag' (key _ 0 (Nat.zero_le _) rfl)
theorem Q_fin (h : ShortE ns os) (x0 x1 x2 : Int) (b3 b4 : Bool) :
    Ev (fun _ k' m => q55_1 (Ak k') m x0 x1 x2 b3 b4 k n (bx s) (strs ns) (ints os) (E.rows ks) a b) (YB (fin k n s ns os ks.length x0 x1 x2 b3 b4)) := by
  unfold fin
  have L := fun b3 b4 => Q_last k n s ns os ks a b h x0 x1 x2 b3 b4
  have two : ∀ b3, Ev (fun _ k' m => q55_2 (Ak k') m x0 x1 x2 b3 b4 k n (bx s) (strs ns) (ints os) (E.rows ks) a b)
      (YB (os.all (okO k) && (b3 && ((if k ≠ 3 ∧ k ≠ 4 ∧ k ≠ 7 then s.isEmpty else b4) && ((Int.ofNat ks.length == x0) && ((Int.ofNat os.length == x1) && ((Int.ofNat ns.length == x2) && ns.all isName))))))) := fun b3 => by
    simp only [q55_2_eq, bl0', bl0, e_nil]
    refine Ev.ifb (fun h3 => ?_) (fun h3 => ?_)
    · have h3 : k ≠ 3 := by simpa using h3
      refine Ev.ifb (fun h4 => ?_) (fun h4 => ?_)
      · have h4 : k ≠ 4 := by simpa using h4
        refine Ev.ifb (fun h7 => ?_) (fun h7 => ?_)
        · have h7 : k ≠ 7 := by simpa using h7
          rw [if_pos ⟨h3, h4, h7⟩]; exact L _ _
        · have h7 : k = 7 := by simpa using h7
          rw [if_neg (fun e => e.2.2 h7)]; exact L _ _
      · have h4 : k = 4 := by simpa using h4
        rw [if_neg (fun e => e.2.1 h4)]; exact L _ _
    · have h3 : k = 3 := by simpa using h3
      rw [if_neg (fun e => e.1 h3)]; exact L _ _
  simp only [q55_1_eq, i_beq]
  refine Ev.ifb (fun h1 => ?_) (fun h1 => ?_)
  · have h1 : k ≠ 1 := by simpa using h1
    refine Ev.ifb (fun h2 => ?_) (fun h2 => ?_)
    · have h2 : k ≠ 2 := by simpa using h2
      rw [if_pos ⟨h1, h2⟩]; exact two _
    · have h2 : k = 2 := by simpa using h2
      rw [if_neg (fun e => e.2 h2)]; exact two _
  · have h1 : k = 1 := by simpa using h1
    rw [if_neg (fun e => e.1 h1)]; exact two _
end

theorem leafS {F : Nat → Nat → Nat → Option Out} {x y : Bool} (h : Ev F (YB x)) (e : x = y) : Ev F (YB y) := e ▸ h
theorem two_of (a : Nat) : (Int.ofNat a == if (4 : Int) < if Int.ofNat a < 2 then 2 else Int.ofNat a then 4 else if Int.ofNat a < 2 then 2 else Int.ofNat a) = (decide (2 ≤ a) && decide (a ≤ 4)) := by
  rw [Bool.eq_iff_iff]
  by_cases h : Int.ofNat a < 2
  · rw [if_pos h, if_neg (by decide)]
    simp only [beq_iff_eq, Bool.and_eq_true, decide_eq_true_eq, Int.ofNat_eq_natCast] at *
    omega
  · rw [if_neg h]
    by_cases h4 : (4 : Int) < Int.ofNat a
    · rw [if_pos h4]
      simp only [beq_iff_eq, Bool.and_eq_true, decide_eq_true_eq, Int.ofNat_eq_natCast] at *
      omega
    · rw [if_neg h4]
      refine iff_of_true (beq_self_eq_true _) ?_
      simp only [Bool.and_eq_true, decide_eq_true_eq, Int.ofNat_eq_natCast] at *
      omega
theorem one_of (a : Nat) : (Int.ofNat a == if (4 : Int) < if Int.ofNat a < 1 then 1 else Int.ofNat a then 4 else if Int.ofNat a < 1 then 1 else Int.ofNat a) = (decide (1 ≤ a) && decide (a ≤ 4)) := by
  rw [Bool.eq_iff_iff]
  by_cases h : Int.ofNat a < 1
  · rw [if_pos h, if_neg (by decide)]
    simp only [beq_iff_eq, Bool.and_eq_true, decide_eq_true_eq, Int.ofNat_eq_natCast] at *
    omega
  · rw [if_neg h]
    by_cases h4 : (4 : Int) < Int.ofNat a
    · rw [if_pos h4]
      simp only [beq_iff_eq, Bool.and_eq_true, decide_eq_true_eq, Int.ofNat_eq_natCast] at *
      omega
    · rw [if_neg h4]
      refine iff_of_true (beq_self_eq_true _) ?_
      simp only [Bool.and_eq_true, decide_eq_true_eq, Int.ofNat_eq_natCast] at *
      omega
theorem max_of (a : Nat) : (Int.ofNat a == if Int.ofNat a < 1 then 1 else Int.ofNat a) = decide (1 ≤ a) := by
  rw [Bool.eq_iff_iff]
  by_cases h : Int.ofNat a < 1
  · rw [if_pos h]
    simp only [beq_iff_eq, decide_eq_true_eq, Int.ofNat_eq_natCast] at *
    omega
  · rw [if_neg h]
    refine iff_of_true (beq_self_eq_true _) ?_
    simp only [decide_eq_true_eq, Int.ofNat_eq_natCast] at *
    omega
theorem max_of2 (a c : Nat) : (Int.ofNat c == if Int.ofNat a < 1 then 1 else Int.ofNat a) = ((decide (c = a) && decide (1 ≤ a)) || (decide (c = 1) && decide (a = 0))) := by
  rw [Bool.eq_iff_iff]
  by_cases h : Int.ofNat a < 1
  · rw [if_pos h]
    simp only [beq_iff_eq, Bool.or_eq_true, Bool.and_eq_true, decide_eq_true_eq, Int.ofNat_eq_natCast] at *
    omega
  · rw [if_neg h]
    simp only [beq_iff_eq, Bool.or_eq_true, Bool.and_eq_true, decide_eq_true_eq, Int.ofNat_eq_natCast] at *
    omega
theorem self_eq (a : Nat) : (Int.ofNat a == Int.ofNat a) = true := beq_self_eq_true _
theorem C_shape (k n : Int) (s : List UInt8) (ns : List (List UInt8)) (os : List Int) (ks : List E) (a b : Int) (h : ShortE ns os) : Cal 55 [eV (.mk k n s ns os ks a b)] [] (YB (shaped k n s ns os ks.length)) := by
  refine call55 _ _ _ _ _ _ _ _ ?_
  simp only [E.k, E.n, E.name, E.names, E.odds, E.kids, E.line, E.col]
  simp only [e55_eq, q55_0_eq, strs_len', ints_len', E.rows_len, i_beq]
  have c1 := C_name s
  have c2 := C_level s
  have L := Q_fin k n s ns os ks a b h
  have b0 : ∀ x : Nat, (Int.ofNat x == 0) = decide (x = 0) := fun x => len_beq x 0
  have b4 : ∀ x : Nat, (Int.ofNat x == 1) = decide (x = 1) := fun x => len_beq x 1
  have b5 : ∀ x : Nat, (Int.ofNat x == 2) = decide (x = 2) := fun x => len_beq x 2
  have b6 : ∀ x : Nat, (Int.ofNat x == 3) = decide (x = 3) := fun x => len_beq x 3
  have e1 : ns.isEmpty = decide (ns.length = 0) := by cases ns <;> rfl
  have e2 : os.isEmpty = decide (os.length = 0) := by cases os <;> rfl
  have hns : ns.length = 0 → ns.all isName = true := fun e => by rw [List.eq_nil_of_length_eq_zero e]; rfl
  have hos : ∀ lo, os.length = 0 → os.all (inO lo) = true := fun lo e => by rw [List.eq_nil_of_length_eq_zero e]; rfl
  have hos := hos 0
  have hos2 : os.length = 0 → os.all (inO (-2147483647)) = true := fun e => by rw [List.eq_nil_of_length_eq_zero e]; rfl
  have hl7 : lvl s ≤ 7 := by
    unfold lvl
    repeat' split
    all_goals omega
  unfold fin at L
  unfold shaped
  rw [e1, e2]
  clear e1 e2 h
  generalize ks.length = nk at *
  by_cases k1 : k = 1
  · subst k1
    rw [okO_0 (by decide)] at L
    simp only [b0, b4, b5, b6, two_of, one_of, max_of, max_of2, self_eq, if_true, Int.reduceEq, if_false, ne_eq, not_true_eq_false, not_false_eq_true, and_true, true_and, and_self, false_and, and_false] at L ⊢
    repeat' first | (refine Ev.yes rfl ?_) | (refine Ev.no rfl ?_) | (refine v_oB c1 ?_) | (refine v_oI c2 ?_) | (refine Ev.ifb (fun h => ?_) (fun h => ?_))
    all_goals refine leafS (L _ _ _ _ _) ?_
    all_goals (clear L c1 c2; rw [Bool.eq_iff_iff])
    all_goals simp only [two_of, one_of, max_of, max_of2, self_eq, b0, b4, b5, b6, i_beq, inO, Bool.and_eq_true, Bool.or_eq_true, decide_eq_true_eq, decide_eq_false_iff_not, beq_iff_eq, Int.ofNat_eq_natCast] at *
    all_goals (by_cases hA : os.all (inO 0) = true <;> by_cases hA2 : os.all (inO (-2147483647)) = true <;> by_cases hB : ns.all isName = true <;> by_cases hC : s.isEmpty = true <;> by_cases hD : isName s = true <;> simp only [Bool.false_eq_true, imp_false, inO, hA, hA2, hB, hC, hD, true_and, and_true, false_and, and_false, iff_true, iff_false, true_iff, false_iff, not_true_eq_false, not_false_eq_true] at * <;> first | done | omega)
  by_cases k2 : k = 2
  · subst k2
    rw [okO_0 (by decide)] at L
    simp only [b0, b4, b5, b6, two_of, one_of, max_of, max_of2, self_eq, if_true, Int.reduceEq, if_false, ne_eq, not_true_eq_false, not_false_eq_true, and_true, true_and, and_self, false_and, and_false] at L ⊢
    repeat' first | (refine Ev.yes rfl ?_) | (refine Ev.no rfl ?_) | (refine v_oB c1 ?_) | (refine v_oI c2 ?_) | (refine Ev.ifb (fun h => ?_) (fun h => ?_))
    all_goals refine leafS (L _ _ _ _ _) ?_
    all_goals (clear L c1 c2; rw [Bool.eq_iff_iff])
    all_goals simp only [two_of, one_of, max_of, max_of2, self_eq, b0, b4, b5, b6, i_beq, inO, Bool.and_eq_true, Bool.or_eq_true, decide_eq_true_eq, decide_eq_false_iff_not, beq_iff_eq, Int.ofNat_eq_natCast] at *
    all_goals (by_cases hA : os.all (inO 0) = true <;> by_cases hA2 : os.all (inO (-2147483647)) = true <;> by_cases hB : ns.all isName = true <;> by_cases hC : s.isEmpty = true <;> by_cases hD : isName s = true <;> simp only [Bool.false_eq_true, imp_false, inO, hA, hA2, hB, hC, hD, true_and, and_true, false_and, and_false, iff_true, iff_false, true_iff, false_iff, not_true_eq_false, not_false_eq_true] at * <;> first | done | omega)
  by_cases k3 : k = 3
  · subst k3
    rw [okO_0 (by decide)] at L
    simp only [b0, b4, b5, b6, two_of, one_of, max_of, max_of2, self_eq, if_true, Int.reduceEq, if_false, ne_eq, not_true_eq_false, not_false_eq_true, and_true, true_and, and_self, false_and, and_false] at L ⊢
    repeat' first | (refine Ev.yes rfl ?_) | (refine Ev.no rfl ?_) | (refine v_oB c1 ?_) | (refine v_oI c2 ?_) | (refine Ev.ifb (fun h => ?_) (fun h => ?_))
    all_goals refine leafS (L _ _ _ _ _) ?_
    all_goals (clear L c1 c2; rw [Bool.eq_iff_iff])
    all_goals simp only [two_of, one_of, max_of, max_of2, self_eq, b0, b4, b5, b6, i_beq, inO, Bool.and_eq_true, Bool.or_eq_true, decide_eq_true_eq, decide_eq_false_iff_not, beq_iff_eq, Int.ofNat_eq_natCast] at *
    all_goals (by_cases hA : os.all (inO 0) = true <;> by_cases hA2 : os.all (inO (-2147483647)) = true <;> by_cases hB : ns.all isName = true <;> by_cases hC : s.isEmpty = true <;> by_cases hD : isName s = true <;> simp only [Bool.false_eq_true, imp_false, inO, hA, hA2, hB, hC, hD, true_and, and_true, false_and, and_false, iff_true, iff_false, true_iff, false_iff, not_true_eq_false, not_false_eq_true] at * <;> first | done | omega)
  by_cases k4 : k = 4
  · subst k4
    rw [okO_0 (by decide)] at L
    simp only [b0, b4, b5, b6, two_of, one_of, max_of, max_of2, self_eq, if_true, Int.reduceEq, if_false, ne_eq, not_true_eq_false, not_false_eq_true, and_true, true_and, and_self, false_and, and_false] at L ⊢
    repeat' first | (refine Ev.yes rfl ?_) | (refine Ev.no rfl ?_) | (refine v_oB c1 ?_) | (refine v_oI c2 ?_) | (refine Ev.ifb (fun h => ?_) (fun h => ?_))
    all_goals refine leafS (L _ _ _ _ _) ?_
    all_goals (clear L c1 c2; rw [Bool.eq_iff_iff])
    all_goals simp only [two_of, one_of, max_of, max_of2, self_eq, b0, b4, b5, b6, i_beq, inO, Bool.and_eq_true, Bool.or_eq_true, decide_eq_true_eq, decide_eq_false_iff_not, beq_iff_eq, Int.ofNat_eq_natCast] at *
    all_goals (by_cases hA : os.all (inO 0) = true <;> by_cases hA2 : os.all (inO (-2147483647)) = true <;> by_cases hB : ns.all isName = true <;> by_cases hC : s.isEmpty = true <;> by_cases hD : isName s = true <;> simp only [Bool.false_eq_true, imp_false, inO, hA, hA2, hB, hC, hD, true_and, and_true, false_and, and_false, iff_true, iff_false, true_iff, false_iff, not_true_eq_false, not_false_eq_true] at * <;> first | done | omega)
  by_cases k5 : k = 5
  · subst k5
    rw [okO_0 (by decide)] at L
    simp only [b0, b4, b5, b6, two_of, one_of, max_of, max_of2, self_eq, if_true, Int.reduceEq, if_false, ne_eq, not_true_eq_false, not_false_eq_true, and_true, true_and, and_self, false_and, and_false] at L ⊢
    repeat' first | (refine Ev.yes rfl ?_) | (refine Ev.no rfl ?_) | (refine v_oB c1 ?_) | (refine v_oI c2 ?_) | (refine Ev.ifb (fun h => ?_) (fun h => ?_))
    all_goals refine leafS (L _ _ _ _ _) ?_
    all_goals (clear L c1 c2; rw [Bool.eq_iff_iff])
    all_goals simp only [two_of, one_of, max_of, max_of2, self_eq, b0, b4, b5, b6, i_beq, inO, Bool.and_eq_true, Bool.or_eq_true, decide_eq_true_eq, decide_eq_false_iff_not, beq_iff_eq, Int.ofNat_eq_natCast] at *
    all_goals (by_cases hA : os.all (inO 0) = true <;> by_cases hA2 : os.all (inO (-2147483647)) = true <;> by_cases hB : ns.all isName = true <;> by_cases hC : s.isEmpty = true <;> by_cases hD : isName s = true <;> simp only [Bool.false_eq_true, imp_false, inO, hA, hA2, hB, hC, hD, true_and, and_true, false_and, and_false, iff_true, iff_false, true_iff, false_iff, not_true_eq_false, not_false_eq_true] at * <;> first | done | omega)
  by_cases k6 : k = 6
  · subst k6
    rw [okO_0 (by decide)] at L
    simp only [b0, b4, b5, b6, two_of, one_of, max_of, max_of2, self_eq, if_true, Int.reduceEq, if_false, ne_eq, not_true_eq_false, not_false_eq_true, and_true, true_and, and_self, false_and, and_false] at L ⊢
    repeat' first | (refine Ev.yes rfl ?_) | (refine Ev.no rfl ?_) | (refine v_oB c1 ?_) | (refine v_oI c2 ?_) | (refine Ev.ifb (fun h => ?_) (fun h => ?_))
    all_goals refine leafS (L _ _ _ _ _) ?_
    all_goals (clear L c1 c2; rw [Bool.eq_iff_iff])
    all_goals simp only [two_of, one_of, max_of, max_of2, self_eq, b0, b4, b5, b6, i_beq, inO, Bool.and_eq_true, Bool.or_eq_true, decide_eq_true_eq, decide_eq_false_iff_not, beq_iff_eq, Int.ofNat_eq_natCast] at *
    all_goals (by_cases hA : os.all (inO 0) = true <;> by_cases hA2 : os.all (inO (-2147483647)) = true <;> by_cases hB : ns.all isName = true <;> by_cases hC : s.isEmpty = true <;> by_cases hD : isName s = true <;> simp only [Bool.false_eq_true, imp_false, inO, hA, hA2, hB, hC, hD, true_and, and_true, false_and, and_false, iff_true, iff_false, true_iff, false_iff, not_true_eq_false, not_false_eq_true] at * <;> first | done | omega)
  by_cases k7 : k = 7
  · subst k7
    rw [okO_0 (by decide)] at L
    simp only [b0, b4, b5, b6, two_of, one_of, max_of, max_of2, self_eq, if_true, Int.reduceEq, if_false, ne_eq, not_true_eq_false, not_false_eq_true, and_true, true_and, and_self, false_and, and_false] at L ⊢
    repeat' first | (refine Ev.yes rfl ?_) | (refine Ev.no rfl ?_) | (refine v_oB c1 ?_) | (refine v_oI c2 ?_) | (refine Ev.ifb (fun h => ?_) (fun h => ?_))
    all_goals refine leafS (L _ _ _ _ _) ?_
    all_goals (clear L c1 c2; rw [Bool.eq_iff_iff])
    all_goals simp only [two_of, one_of, max_of, max_of2, self_eq, b0, b4, b5, b6, i_beq, inO, Bool.and_eq_true, Bool.or_eq_true, decide_eq_true_eq, decide_eq_false_iff_not, beq_iff_eq, Int.ofNat_eq_natCast] at *
    all_goals (by_cases hA : os.all (inO 0) = true <;> by_cases hA2 : os.all (inO (-2147483647)) = true <;> by_cases hB : ns.all isName = true <;> by_cases hC : s.isEmpty = true <;> by_cases hD : isName s = true <;> simp only [Bool.false_eq_true, imp_false, inO, hA, hA2, hB, hC, hD, true_and, and_true, false_and, and_false, iff_true, iff_false, true_iff, false_iff, not_true_eq_false, not_false_eq_true] at * <;> first | done | omega)
  by_cases k8 : k = 8
  · subst k8
    rw [okO_0 (by decide)] at L
    simp only [b0, b4, b5, b6, two_of, one_of, max_of, max_of2, self_eq, if_true, Int.reduceEq, if_false, ne_eq, not_true_eq_false, not_false_eq_true, and_true, true_and, and_self, false_and, and_false] at L ⊢
    repeat' first | (refine Ev.yes rfl ?_) | (refine Ev.no rfl ?_) | (refine v_oB c1 ?_) | (refine v_oI c2 ?_) | (refine Ev.ifb (fun h => ?_) (fun h => ?_))
    all_goals refine leafS (L _ _ _ _ _) ?_
    all_goals (clear L c1 c2; rw [Bool.eq_iff_iff])
    all_goals simp only [two_of, one_of, max_of, max_of2, self_eq, b0, b4, b5, b6, i_beq, inO, Bool.and_eq_true, Bool.or_eq_true, decide_eq_true_eq, decide_eq_false_iff_not, beq_iff_eq, Int.ofNat_eq_natCast] at *
    all_goals (by_cases hA : os.all (inO 0) = true <;> by_cases hA2 : os.all (inO (-2147483647)) = true <;> by_cases hB : ns.all isName = true <;> by_cases hC : s.isEmpty = true <;> by_cases hD : isName s = true <;> simp only [Bool.false_eq_true, imp_false, inO, hA, hA2, hB, hC, hD, true_and, and_true, false_and, and_false, iff_true, iff_false, true_iff, false_iff, not_true_eq_false, not_false_eq_true] at * <;> first | done | omega)
  by_cases k9 : k = 9
  · subst k9
    rw [okO_0 (by decide)] at L
    simp only [b0, b4, b5, b6, two_of, one_of, max_of, max_of2, self_eq, if_true, Int.reduceEq, if_false, ne_eq, not_true_eq_false, not_false_eq_true, and_true, true_and, and_self, false_and, and_false] at L ⊢
    repeat' first | (refine Ev.yes rfl ?_) | (refine Ev.no rfl ?_) | (refine v_oB c1 ?_) | (refine v_oI c2 ?_) | (refine Ev.ifb (fun h => ?_) (fun h => ?_))
    all_goals refine leafS (L _ _ _ _ _) ?_
    all_goals (clear L c1 c2; rw [Bool.eq_iff_iff])
    all_goals simp only [two_of, one_of, max_of, max_of2, self_eq, b0, b4, b5, b6, i_beq, inO, Bool.and_eq_true, Bool.or_eq_true, decide_eq_true_eq, decide_eq_false_iff_not, beq_iff_eq, Int.ofNat_eq_natCast] at *
    all_goals (by_cases hA : os.all (inO 0) = true <;> by_cases hA2 : os.all (inO (-2147483647)) = true <;> by_cases hB : ns.all isName = true <;> by_cases hC : s.isEmpty = true <;> by_cases hD : isName s = true <;> simp only [Bool.false_eq_true, imp_false, inO, hA, hA2, hB, hC, hD, true_and, and_true, false_and, and_false, iff_true, iff_false, true_iff, false_iff, not_true_eq_false, not_false_eq_true] at * <;> first | done | omega)
  by_cases k10 : k = 10
  · subst k10
    rw [okO_0 (by decide)] at L
    simp only [b0, b4, b5, b6, two_of, one_of, max_of, max_of2, self_eq, if_true, Int.reduceEq, if_false, ne_eq, not_true_eq_false, not_false_eq_true, and_true, true_and, and_self, false_and, and_false] at L ⊢
    repeat' first | (refine Ev.yes rfl ?_) | (refine Ev.no rfl ?_) | (refine v_oB c1 ?_) | (refine v_oI c2 ?_) | (refine Ev.ifb (fun h => ?_) (fun h => ?_))
    all_goals refine leafS (L _ _ _ _ _) ?_
    all_goals (clear L c1 c2; rw [Bool.eq_iff_iff])
    all_goals simp only [two_of, one_of, max_of, max_of2, self_eq, b0, b4, b5, b6, i_beq, inO, Bool.and_eq_true, Bool.or_eq_true, decide_eq_true_eq, decide_eq_false_iff_not, beq_iff_eq, Int.ofNat_eq_natCast] at *
    all_goals (by_cases hA : os.all (inO 0) = true <;> by_cases hA2 : os.all (inO (-2147483647)) = true <;> by_cases hB : ns.all isName = true <;> by_cases hC : s.isEmpty = true <;> by_cases hD : isName s = true <;> simp only [Bool.false_eq_true, imp_false, inO, hA, hA2, hB, hC, hD, true_and, and_true, false_and, and_false, iff_true, iff_false, true_iff, false_iff, not_true_eq_false, not_false_eq_true] at * <;> first | done | omega)
  by_cases k11 : k = 11
  · subst k11
    rw [okO_0 (by decide)] at L
    simp only [b0, b4, b5, b6, two_of, one_of, max_of, max_of2, self_eq, if_true, Int.reduceEq, if_false, ne_eq, not_true_eq_false, not_false_eq_true, and_true, true_and, and_self, false_and, and_false] at L ⊢
    repeat' first | (refine Ev.yes rfl ?_) | (refine Ev.no rfl ?_) | (refine v_oB c1 ?_) | (refine v_oI c2 ?_) | (refine Ev.ifb (fun h => ?_) (fun h => ?_))
    all_goals refine leafS (L _ _ _ _ _) ?_
    all_goals (clear L c1 c2; rw [Bool.eq_iff_iff])
    all_goals simp only [two_of, one_of, max_of, max_of2, self_eq, b0, b4, b5, b6, i_beq, inO, Bool.and_eq_true, Bool.or_eq_true, decide_eq_true_eq, decide_eq_false_iff_not, beq_iff_eq, Int.ofNat_eq_natCast] at *
    all_goals (by_cases hA : os.all (inO 0) = true <;> by_cases hA2 : os.all (inO (-2147483647)) = true <;> by_cases hB : ns.all isName = true <;> by_cases hC : s.isEmpty = true <;> by_cases hD : isName s = true <;> simp only [Bool.false_eq_true, imp_false, inO, hA, hA2, hB, hC, hD, true_and, and_true, false_and, and_false, iff_true, iff_false, true_iff, false_iff, not_true_eq_false, not_false_eq_true] at * <;> first | done | omega)
  by_cases k12 : k = 12
  · subst k12
    rw [okO_0 (by decide)] at L
    simp only [b0, b4, b5, b6, two_of, one_of, max_of, max_of2, self_eq, if_true, Int.reduceEq, if_false, ne_eq, not_true_eq_false, not_false_eq_true, and_true, true_and, and_self, false_and, and_false] at L ⊢
    repeat' first | (refine Ev.yes rfl ?_) | (refine Ev.no rfl ?_) | (refine v_oB c1 ?_) | (refine v_oI c2 ?_) | (refine Ev.ifb (fun h => ?_) (fun h => ?_))
    all_goals refine leafS (L _ _ _ _ _) ?_
    all_goals (clear L c1 c2; rw [Bool.eq_iff_iff])
    all_goals simp only [two_of, one_of, max_of, max_of2, self_eq, b0, b4, b5, b6, i_beq, inO, Bool.and_eq_true, Bool.or_eq_true, decide_eq_true_eq, decide_eq_false_iff_not, beq_iff_eq, Int.ofNat_eq_natCast] at *
    all_goals (by_cases hA : os.all (inO 0) = true <;> by_cases hA2 : os.all (inO (-2147483647)) = true <;> by_cases hB : ns.all isName = true <;> by_cases hC : s.isEmpty = true <;> by_cases hD : isName s = true <;> simp only [Bool.false_eq_true, imp_false, inO, hA, hA2, hB, hC, hD, true_and, and_true, false_and, and_false, iff_true, iff_false, true_iff, false_iff, not_true_eq_false, not_false_eq_true] at * <;> first | done | omega)
  by_cases k13 : k = 13
  · subst k13
    rw [okO_0 (by decide)] at L
    simp only [b0, b4, b5, b6, two_of, one_of, max_of, max_of2, self_eq, if_true, Int.reduceEq, if_false, ne_eq, not_true_eq_false, not_false_eq_true, and_true, true_and, and_self, false_and, and_false] at L ⊢
    repeat' first | (refine Ev.yes rfl ?_) | (refine Ev.no rfl ?_) | (refine v_oB c1 ?_) | (refine v_oI c2 ?_) | (refine Ev.ifb (fun h => ?_) (fun h => ?_))
    all_goals refine leafS (L _ _ _ _ _) ?_
    all_goals (clear L c1 c2; rw [Bool.eq_iff_iff])
    all_goals simp only [two_of, one_of, max_of, max_of2, self_eq, b0, b4, b5, b6, i_beq, inO, Bool.and_eq_true, Bool.or_eq_true, decide_eq_true_eq, decide_eq_false_iff_not, beq_iff_eq, Int.ofNat_eq_natCast] at *
    all_goals (by_cases hA : os.all (inO 0) = true <;> by_cases hA2 : os.all (inO (-2147483647)) = true <;> by_cases hB : ns.all isName = true <;> by_cases hC : s.isEmpty = true <;> by_cases hD : isName s = true <;> simp only [Bool.false_eq_true, imp_false, inO, hA, hA2, hB, hC, hD, true_and, and_true, false_and, and_false, iff_true, iff_false, true_iff, false_iff, not_true_eq_false, not_false_eq_true] at * <;> first | done | omega)
  by_cases k14 : k = 14
  · subst k14
    rw [okO_0 (by decide)] at L
    simp only [b0, b4, b5, b6, two_of, one_of, max_of, max_of2, self_eq, if_true, Int.reduceEq, if_false, ne_eq, not_true_eq_false, not_false_eq_true, and_true, true_and, and_self, false_and, and_false] at L ⊢
    repeat' first | (refine Ev.yes rfl ?_) | (refine Ev.no rfl ?_) | (refine v_oB c1 ?_) | (refine v_oI c2 ?_) | (refine Ev.ifb (fun h => ?_) (fun h => ?_))
    all_goals refine leafS (L _ _ _ _ _) ?_
    all_goals (clear L c1 c2; rw [Bool.eq_iff_iff])
    all_goals simp only [two_of, one_of, max_of, max_of2, self_eq, b0, b4, b5, b6, i_beq, inO, Bool.and_eq_true, Bool.or_eq_true, decide_eq_true_eq, decide_eq_false_iff_not, beq_iff_eq, Int.ofNat_eq_natCast] at *
    all_goals (by_cases hA : os.all (inO 0) = true <;> by_cases hA2 : os.all (inO (-2147483647)) = true <;> by_cases hB : ns.all isName = true <;> by_cases hC : s.isEmpty = true <;> by_cases hD : isName s = true <;> simp only [Bool.false_eq_true, imp_false, inO, hA, hA2, hB, hC, hD, true_and, and_true, false_and, and_false, iff_true, iff_false, true_iff, false_iff, not_true_eq_false, not_false_eq_true] at * <;> first | done | omega)
  by_cases k15 : k = 15
  · subst k15
    rw [okO_15] at L
    simp only [b0, b4, b5, b6, two_of, one_of, max_of, max_of2, self_eq, if_true, Int.reduceEq, if_false, ne_eq, not_true_eq_false, not_false_eq_true, and_true, true_and, and_self, false_and, and_false] at L ⊢
    repeat' first | (refine Ev.yes rfl ?_) | (refine Ev.no rfl ?_) | (refine v_oB c1 ?_) | (refine v_oI c2 ?_) | (refine Ev.ifb (fun h => ?_) (fun h => ?_))
    all_goals refine leafS (L _ _ _ _ _) ?_
    all_goals (clear L c1 c2; rw [Bool.eq_iff_iff])
    all_goals simp only [two_of, one_of, max_of, max_of2, self_eq, b0, b4, b5, b6, i_beq, inO, Bool.and_eq_true, Bool.or_eq_true, decide_eq_true_eq, decide_eq_false_iff_not, beq_iff_eq, Int.ofNat_eq_natCast] at *
    all_goals (by_cases hA : os.all (inO 0) = true <;> by_cases hA2 : os.all (inO (-2147483647)) = true <;> by_cases hB : ns.all isName = true <;> by_cases hC : s.isEmpty = true <;> by_cases hD : isName s = true <;> simp only [Bool.false_eq_true, imp_false, inO, hA, hA2, hB, hC, hD, true_and, and_true, false_and, and_false, iff_true, iff_false, true_iff, false_iff, not_true_eq_false, not_false_eq_true] at * <;> first | done | omega)
  have kk : ∀ κ : Int, k ≠ κ → decide (k = κ) = false := fun κ hk => decide_eq_false hk
  simp only [kk _ k1, kk _ k2, kk _ k3, kk _ k4, kk _ k5, kk _ k6, kk _ k7, kk _ k8, kk _ k9, kk _ k10, kk _ k11, kk _ k12, kk _ k13, kk _ k14, kk _ k15, cond_false]
  simp only [if_neg k1, if_neg k2, if_neg k3, if_neg k4, if_neg k5, if_neg k6, if_neg k7, if_neg k8, if_neg k9, if_neg k10, if_neg k11, if_neg k12, if_neg k13, if_neg k14, if_neg k15]
  repeat' first | (refine Ev.ifb (fun h => ?_) (fun h => ?_)) | (exact Ev.rb rfl)
end Go.Proofs.YtaphnbaiamnfpaaDoor.Ps
namespace Go.Proofs.YtaphnbaiamnfpaaDoor.Ps
set_option linter.unusedVariables false
set_option linter.unusedSimpArgs false
open Go Go.RowKit Px
open Lx (Tok)

theorem rightEs_all (d : Nat) : ∀ l : List E, rightEs d l = l.all (rightE d)
  | [] => by rw [rightEs]; rfl
  | x :: r => by rw [rightEs, rightEs_all d r, List.all_cons]
theorem rightTs_all (d : Nat) : ∀ l : List T, rightTs d l = l.all (rightT d)
  | [] => by rw [rightTs]; rfl
  | x :: r => by rw [rightTs, rightTs_all d r, List.all_cons]
theorem lenEs_mem : ∀ {l : List E}, LenEs l → ∀ x ∈ l, LenE x
  | y :: r, h, x, hx => by
    rw [LenEs] at h
    rcases List.mem_cons.1 hx with rfl | hx
    · exact h.1
    · exact lenEs_mem h.2 x hx
theorem lenTs_mem : ∀ {l : List T}, LenTs l → ∀ x ∈ l, LenT x
  | y :: r, h, x, hx => by
    rw [LenTs] at h
    rcases List.mem_cons.1 hx with rfl | hx
    · exact h.1
    · exact lenTs_mem h.2 x hx
theorem shortE {k n : Int} {s : List UInt8} {ns : List (List UInt8)} {os : List Int} {ks : List E} {a b : Int} (h : LenE (.mk k n s ns os ks a b)) : ShortE ns os := by
  rw [LenE] at h
  exact ⟨by omega, by omega⟩
theorem C_rightQ : ∀ (d : Nat), d ≤ 40 → ∀ e : E, LenE e → Cal 32 [eV e, V.one (iX (Int.ofNat d))] [] (YB (rightE d e))
  | 0, _, .mk k n s ns os ks a b, hl => by
    refine call32 _ _ _ _ _ _ _ _ _ ?_
    simp only [e32_eq]
    refine Ev.yes rfl (Ev.rb ?_)
    rw [rightE]
  | d + 1, hd, .mk k n s ns os ks a b, hl => by
    refine call32 _ _ _ _ _ _ _ _ _ ?_
    simp only [e32_eq]
    refine Ev.no (decide_eq_false (by simp only [Int.ofNat_eq_natCast]; omega)) ?_
    refine v_oB (C_shape k n s ns os ks a b (shortE hl)) ?_
    rw [rightE]
    cases hs : shaped k n s ns os ks.length with
    | false => exact Ev.yes rfl (Ev.rb rfl)
    | true =>
      rw [Bool.true_and, rightEs_all]
      rw [LenE] at hl
      refine Ev.no rfl ?_
      show Ev (fun _ k' m => q32_0 (Ak k') m (Int.ofNat (d + 1)) k n (bx s) (strs ns) (ints os) (E.rows ks) a b) _
      simp only [q32_0_eq, E.rows_len]
      have key : ∀ (z i : Nat), i ≤ ks.length → ks.length - i = z → Ev (fun m k' y => l32_0 m (Ak k') y (Int.ofNat (d + 1)) (E.rows ks) (Int.ofNat ks.length) (Int.ofNat i)) (YB ((ks.drop i).all (rightE d))) := by
        intro z
        induction z with
        | zero =>
          intro i hi hz
          rw [List.drop_eq_nil_of_le (by omega)]
          refine Ev.step ?_
          simp only [l32_0_eq]
          exact Ev.no (lt_no i _ (by omega)) (Ev.of fun m k n => by rw [q32_3_eq]; rfl)
        | succ z ih =>
          intro i hi hz
          have hlt : i < ks.length := by omega
          rw [all_drop _ _ _ hlt]
          refine Ev.step ?_
          simp only [l32_0_eq]
          refine Ev.yes (lt_yes i _ hlt) ?_
          simp only [q32_1_eq, tn, E.rows_at ks i hlt, E.row_eq, E.rows_len]
          refine Ev.yes (in_range i _ hlt) ?_
          have hw : IntKind.wrap .i64 (Int.ofNat (d + 1) - 1) = Int.ofNat d := by
            rw [wrap_in _ (by simp only [Int.ofNat_eq_natCast]; omega) (by simp only [Int.ofNat_eq_natCast]; omega)]
            simp only [Int.ofNat_eq_natCast]; omega
          rw [hw]
          refine v_oB (C_rightQ d (by omega) ks[i] (lenEs_mem hl.2 _ (List.getElem_mem hlt))) ?_
          cases hn : rightE d ks[i] with
          | false => exact Ev.yes rfl (Ev.rb rfl)
          | true =>
            refine Ev.no rfl ?_
            simp only [q32_2_eq, wrap_up i (show i < 9223372036854775807 by omega)]
            exact ih (i + 1) (by omega) (by omega)
      exact Ev.diag' (key _ 0 (Nat.zero_le _) rfl)
theorem C_RightExpr (e : E) (hl : LenE e) : Cal 11 [eV e] [] (YB (rightE 40 e)) := by
  refine call11 _ _ _ _ _ _ _ _ ?_
  simp only [e11_eq]
  exact v_oB (C_rightQ 40 (Nat.le_refl _) e hl) (Ev.ret _)
theorem C_rightR : ∀ (d : Nat), d ≤ 40 → ∀ e : E, LenE e → Cal 33 [eV e, V.one (iX (Int.ofNat d))] [] (YB (rightE d e))
  | 0, _, .mk k n s ns os ks a b, hl => by
    refine call33 _ _ _ _ _ _ _ _ _ ?_
    simp only [e33_eq]
    refine Ev.yes rfl (Ev.rb ?_)
    rw [rightE]
  | d + 1, hd, .mk k n s ns os ks a b, hl => by
    refine call33 _ _ _ _ _ _ _ _ _ ?_
    simp only [e33_eq]
    refine Ev.no (decide_eq_false (by simp only [Int.ofNat_eq_natCast]; omega)) ?_
    refine v_oB (C_shaped k n s ns os ks a b (shortE hl)) ?_
    rw [rightE]
    cases hs : shaped k n s ns os ks.length with
    | false => exact Ev.yes rfl (Ev.rb rfl)
    | true =>
      rw [Bool.true_and, rightEs_all]
      rw [LenE] at hl
      refine Ev.no rfl ?_
      show Ev (fun _ k' m => q33_0 (Ak k') m (Int.ofNat (d + 1)) k n (bx s) (strs ns) (ints os) (E.rows ks) a b) _
      simp only [q33_0_eq, E.rows_len]
      have key : ∀ (z i : Nat), i ≤ ks.length → ks.length - i = z → Ev (fun m k' y => l33_0 m (Ak k') y (Int.ofNat (d + 1)) (Int.ofNat i) k n (bx s) (strs ns) (ints os) (E.rows ks) a b) (YB ((ks.drop i).all (rightE d))) := by
        intro z
        induction z with
        | zero =>
          intro i hi hz
          rw [List.drop_eq_nil_of_le (by omega)]
          refine Ev.step ?_
          simp only [l33_0_eq, E.rows_len]
          exact Ev.no (lt_no i _ (by omega)) (Ev.of fun m k n => by rw [q33_3_eq]; rfl)
        | succ z ih =>
          intro i hi hz
          have hlt : i < ks.length := by omega
          rw [all_drop _ _ _ hlt]
          refine Ev.step ?_
          simp only [l33_0_eq, E.rows_len]
          refine Ev.yes (lt_yes i _ hlt) ?_
          simp only [q33_1_eq, tn, E.rows_at ks i hlt, E.row_eq, E.rows_len]
          refine Ev.yes (in_range i _ hlt) ?_
          have hw : IntKind.wrap .i64 (Int.ofNat (d + 1) - 1) = Int.ofNat d := by
            rw [wrap_in _ (by simp only [Int.ofNat_eq_natCast]; omega) (by simp only [Int.ofNat_eq_natCast]; omega)]
            simp only [Int.ofNat_eq_natCast]; omega
          rw [hw]
          refine v_oB (C_rightR d (by omega) ks[i] (lenEs_mem hl.2 _ (List.getElem_mem hlt))) ?_
          cases hn : rightE d ks[i] with
          | false => exact Ev.yes rfl (Ev.rb rfl)
          | true =>
            refine Ev.no rfl ?_
            simp only [q33_2_eq, wrap_up i (show i < 9223372036854775807 by omega)]
            exact ih (i + 1) (by omega) (by omega)
      exact Ev.diag' (key _ 0 (Nat.zero_le _) rfl)
theorem C_rRightExpr (e : E) (hl : LenE e) : Cal 12 [eV e] [] (YB (rightE 40 e)) := by
  refine call12 _ _ _ _ _ _ _ _ ?_
  simp only [e12_eq]
  exact v_oB (C_rightR 40 (Nat.le_refl _) e hl) (Ev.ret _)
end Go.Proofs.YtaphnbaiamnfpaaDoor.Ps
namespace Go.Proofs.YtaphnbaiamnfpaaDoor.Ps
set_option linter.unusedVariables false
set_option linter.unusedSimpArgs false
set_option maxRecDepth 100000
open Go Go.RowKit Px

theorem sub_get (cs : List Value) (off c j : Nat) (h : j < c) : ((cs.drop off).take c).getD j undef = cs.getD (off + j) undef := by
  rw [List.getD_eq_getElem?_getD, List.getD_eq_getElem?_getD, List.getElem?_take_of_lt h, List.getElem?_drop]
theorem one_get {cs : List Value} {off : Nat} {v : Value} (h : (cs.drop off).take 1 = [v]) : cs.getD off undef = v := by
  have := sub_get cs off 1 0 (by omega)
  rw [h] at this
  exact this.symm
section
variable {H : Type} {enc : TypeId × Value → H} {w : World} {base : Nat} {spare : Nat → Bool} {held : Bool}
theorem c1 : Tryd.prog.cellsOf 3 = 1 ∧ Tryd.prog.cellsOf 9 = 1 ∧ Tryd.prog.cellsOf 24 = 1 ∧ Tryd.prog.cellsOf 25 = 1 ∧ Tryd.prog.cellsOf 26 = 1 ∧ Tryd.prog.cellsOf 22 = 1 ∧ Tryd.prog.cellsOf 23 = 1 ∧ Tryd.prog.cellsOf 56 = 1 := ⟨by kernel_rfl, by kernel_rfl, by kernel_rfl, by kernel_rfl, by kernel_rfl, by kernel_rfl, by kernel_rfl, by kernel_rfl⟩
theorem c2 : Tryd.prog.cellsOf 58 = 2 ∧ Tryd.prog.cellsOf 28 = 8 ∧ Tryd.prog.cellsOf 60 = 5 ∧ Tryd.prog.cellsOf 62 = 14 ∧ Tryd.prog.cellsOf 30 = 10 := ⟨by kernel_rfl, by kernel_rfl, by kernel_rfl, by kernel_rfl, by kernel_rfl⟩
theorem rep_str : ∀ fuel cs x, DataW.trod enc Tryd.prog w base spare held fuel 9 cs = some x → (x.1.weights Tryd.prog 9).all (· ≤ reachBytes) = true → ∃ s : List UInt8, RowRep w 1 (fun s => [D.str (bx s)]) s cs := by
  intro fuel cs x h hW
  obtain ⟨s, hk, _, _⟩ := DataW.trod_string Tryd.underlying9 h
  cases hk
  refine ⟨s.data.toList, rfl, fun j hj => ?_⟩
  match j, hj with
  | 0, _ =>
    show RepD _ _ (D.str (bx s.data.toList)) _
    rw [bx_self]
    exact .str _
theorem rep_int : ∀ fuel cs x, DataW.trod enc Tryd.prog w base spare held fuel 3 cs = some x → (x.1.weights Tryd.prog 3).all (· ≤ reachBytes) = true → ∃ n : Int, RowRep w 1 (fun n => [D.int IntKind.i64 n]) n cs := by
  intro fuel cs x h hW
  obtain ⟨k, hk, _, _⟩ := DataW.trod_int Tryd.underlying3 h
  cases hk
  refine ⟨k, rfl, fun j hj => ?_⟩
  match j, hj with
  | 0, _ => exact .int _ _
theorem f_int {n off : Nat} {cs : List Value} {y : Option (DataW H × List MemPlace)} {z : DataW H × List MemPlace} (h : DataW.trod enc Tryd.prog w base spare held n 3 ((cs.drop off).take (Tryd.prog.cellsOf 3)) = y) (hy : y = some z) : ∃ k : Int, RepD w (cellsIn w) (.int .i64 k) (cs.getD off undef) := by
  rw [c1.1, hy] at h
  obtain ⟨k, hk, _, _⟩ := DataW.trod_int Tryd.underlying3 h
  rw [one_get hk]
  exact ⟨k, .int _ _⟩
theorem f_str {n off : Nat} {cs : List Value} {y : Option (DataW H × List MemPlace)} {z : DataW H × List MemPlace} (h : DataW.trod enc Tryd.prog w base spare held n 9 ((cs.drop off).take (Tryd.prog.cellsOf 9)) = y) (hy : y = some z) : ∃ s : List UInt8, RepD w (cellsIn w) (.str (bx s)) (cs.getD off undef) := by
  rw [c1.2.1, hy] at h
  obtain ⟨s, hk, _, _⟩ := DataW.trod_string Tryd.underlying9 h
  rw [one_get hk]
  refine ⟨s.data.toList, ?_⟩
  rw [bx_self]
  exact .str _
theorem f_list {α : Type} {row : α → List D} {t e sz n off : Nat} {cs : List Value} {y : Option (DataW H × List MemPlace)} {z : DataW H × List MemPlace} (hu : Tryd.prog.underlying t = some (.slice e)) (h1 : Tryd.prog.cellsOf t = 1) (hc : Tryd.prog.cellsOf e = sz) (hsz : 0 < sz)
    (he : ∀ m, m < n → ∀ cs y, DataW.trod enc Tryd.prog w base spare held m e cs = some y → (y.1.weights Tryd.prog e).all (· ≤ reachBytes) = true → ∃ a : α, RowRep w sz row a cs) (hbe : 0 < Tryd.prog.bytesOf e) (hwz : (z.1.weights Tryd.prog t).all (· ≤ reachBytes) = true) (h : DataW.trod enc Tryd.prog w base spare held n t ((cs.drop off).take (Tryd.prog.cellsOf t)) = y) (hy : y = some z) :
    ∃ l : List α, l.length ≤ 140737488351232 ∧ RepD w (cellsIn w) (.list sz (l.map row)) (cs.getD off undef) := by
  rw [h1, hy] at h
  obtain ⟨l, v, hv, hr, hl⟩ := rep_slice hu hc hsz he h hwz hbe
  rw [one_get hv]
  exact ⟨l, hl, hr⟩
theorem lenTs_all : ∀ l : List T, (∀ x ∈ l, LenT x) → LenTs l
  | [], _ => by rw [LenTs]; trivial
  | x :: r, h => by rw [LenTs]; exact ⟨h x (by simp), lenTs_all r fun y hy => h y (by simp [hy])⟩
theorem lenEs_all : ∀ l : List E, (∀ x ∈ l, LenE x) → LenEs l
  | [], _ => by rw [LenEs]; trivial
  | x :: r, h => by rw [LenEs]; exact ⟨h x (by simp), lenEs_all r fun y hy => h y (by simp [hy])⟩
theorem vals {α : Type} {p : α → Prop} (l : List { a : α // p a }) : ∀ x ∈ l.map (·.1), p x := fun x hx => by
  obtain ⟨a, _, rfl⟩ := List.mem_map.1 hx
  exact a.2
abbrev TL : Type := { t : T // LenT t }
abbrev EL : Type := { e : E // LenE e }
abbrev FL : Type := { f : Fld // LenT f.typ }
abbrev NL : Type := { f : Fnc // LenFn f }
theorem some_at {α : Type} (xs : List α) (i : Nat) (h : i < xs.length) : xs[i]? = some xs[i] := List.getElem?_eq_getElem h
theorem rep_T : ∀ fuel cs x, DataW.trod enc Tryd.prog w base spare held fuel 58 cs = some x → (x.1.weights Tryd.prog 58).all (· ≤ reachBytes) = true → ∃ t : TL, RowRep w 2 (fun t : TL => T.row t.1) t cs := by
  intro fuel
  induction fuel using Nat.strongRecOn with
  | ind fuel ih =>
    intro cs x h hW
    obtain ⟨xs, n, hn, hx, hl, hxs, hat⟩ := DataW.trod_struct Tryd.underlying58 h
    rw [hx] at hW
    rw [c2.1] at hl
    replace hxs : xs.length = 2 := hxs
    obtain ⟨k, r0⟩ := f_int (hat 0 _ rfl) (some_at xs 0 (by omega))
    obtain ⟨l, hll, r1⟩ := f_list (row := fun t : TL => T.row t.1) Tryd.underlying56 c1.2.2.2.2.2.2.2 c2.1 (by omega) (fun m hm => ih m (by omega)) (of_decide_eq_true (by kernel_rfl)) (struct_at (ps := []) (i := 1) Tryd.underlying58 hW rfl (some_at xs 1 (by omega))) (hat 1 _ rfl) (some_at xs 1 (by omega))
    refine ⟨⟨.mk k (l.map (·.1)), by rw [LenT]; exact ⟨by rw [List.length_map]; exact hll, lenTs_all _ (vals l)⟩⟩, hl, fun j hj => ?_⟩
    show RepD _ _ (dat (T.row (.mk k (l.map (·.1)))) j) _
    rw [T.row, T.rows_map, List.map_map]
    match j, hj with
    | 0, _ => exact r0
    | 1, _ => exact r1
theorem rep_E : ∀ fuel cs x, DataW.trod enc Tryd.prog w base spare held fuel 28 cs = some x → (x.1.weights Tryd.prog 28).all (· ≤ reachBytes) = true → ∃ t : EL, RowRep w 8 (fun t : EL => E.row t.1) t cs := by
  intro fuel
  induction fuel using Nat.strongRecOn with
  | ind fuel ih =>
    intro cs x h hW
    obtain ⟨xs, n, hn, hx, hl, hxs, hat⟩ := DataW.trod_struct Tryd.underlying28 h
    rw [hx] at hW
    rw [c2.2.1] at hl
    replace hxs : xs.length = 8 := hxs
    obtain ⟨k, r0⟩ := f_int (hat 0 _ rfl) (some_at xs 0 (by omega))
    obtain ⟨nn, r1⟩ := f_int (hat 1 _ rfl) (some_at xs 1 (by omega))
    obtain ⟨s, r2⟩ := f_str (hat 2 _ rfl) (some_at xs 2 (by omega))
    obtain ⟨ns, hns, r3⟩ := f_list (row := fun s : List UInt8 => [D.str (bx s)]) Tryd.underlying24 c1.2.2.1 c1.2.1 (by omega) (fun m hm => rep_str m) (of_decide_eq_true (by kernel_rfl)) (struct_at (ps := []) (i := 3) Tryd.underlying28 hW rfl (some_at xs 3 (by omega))) (hat 3 _ rfl) (some_at xs 3 (by omega))
    obtain ⟨os, hos, r4⟩ := f_list (row := fun n : Int => [D.int IntKind.i64 n]) Tryd.underlying25 c1.2.2.2.1 c1.1 (by omega) (fun m hm => rep_int m) (of_decide_eq_true (by kernel_rfl)) (struct_at (ps := []) (i := 4) Tryd.underlying28 hW rfl (some_at xs 4 (by omega))) (hat 4 _ rfl) (some_at xs 4 (by omega))
    obtain ⟨l, hll, r5⟩ := f_list (row := fun t : EL => E.row t.1) Tryd.underlying26 c1.2.2.2.2.1 c2.2.1 (by omega) (fun m hm => ih m (by omega)) (of_decide_eq_true (by kernel_rfl)) (struct_at (ps := []) (i := 5) Tryd.underlying28 hW rfl (some_at xs 5 (by omega))) (hat 5 _ rfl) (some_at xs 5 (by omega))
    obtain ⟨a, r6⟩ := f_int (hat 6 _ rfl) (some_at xs 6 (by omega))
    obtain ⟨b, r7⟩ := f_int (hat 7 _ rfl) (some_at xs 7 (by omega))
    refine ⟨⟨.mk k nn s ns os (l.map (·.1)) a b, by rw [LenE]; exact ⟨⟨hns, hos, by rw [List.length_map]; exact hll⟩, lenEs_all _ (vals l)⟩⟩, hl, fun j hj => ?_⟩
    show RepD _ _ (dat (E.row (.mk k nn s ns os (l.map (·.1)) a b)) j) _
    rw [E.row, E.rows_map, List.map_map]
    match j, hj with
    | 0, _ => exact r0
    | 1, _ => exact r1
    | 2, _ => exact r2
    | 3, _ => exact r3
    | 4, _ => exact r4
    | 5, _ => exact r5
    | 6, _ => exact r6
    | 7, _ => exact r7
theorem f_T {n off : Nat} {cs : List Value} {y : Option (DataW H × List MemPlace)} {z : DataW H × List MemPlace} (hwz : (z.1.weights Tryd.prog 58).all (· ≤ reachBytes) = true) (h : DataW.trod enc Tryd.prog w base spare held n 58 ((cs.drop off).take (Tryd.prog.cellsOf 58)) = y) (hy : y = some z) : ∃ t : T, LenT t ∧ ∀ j, j < 2 → RepD w (cellsIn w) (dat (T.row t) j) (cs.getD (off + j) undef) := by
  rw [c2.1, hy] at h
  obtain ⟨t, _, hr⟩ := rep_T _ _ _ h hwz
  exact ⟨t.1, t.2, fun j hj => by rw [← sub_get cs off 2 j hj]; exact hr j hj⟩
theorem f_E {n off : Nat} {cs : List Value} {y : Option (DataW H × List MemPlace)} {z : DataW H × List MemPlace} (hwz : (z.1.weights Tryd.prog 28).all (· ≤ reachBytes) = true) (h : DataW.trod enc Tryd.prog w base spare held n 28 ((cs.drop off).take (Tryd.prog.cellsOf 28)) = y) (hy : y = some z) : ∃ t : E, LenE t ∧ ∀ j, j < 8 → RepD w (cellsIn w) (dat (E.row t) j) (cs.getD (off + j) undef) := by
  rw [c2.2.1, hy] at h
  obtain ⟨t, _, hr⟩ := rep_E _ _ _ h hwz
  exact ⟨t.1, t.2, fun j hj => by rw [← sub_get cs off 8 j hj]; exact hr j hj⟩
theorem rep_F : ∀ fuel cs x, DataW.trod enc Tryd.prog w base spare held fuel 60 cs = some x → (x.1.weights Tryd.prog 60).all (· ≤ reachBytes) = true → ∃ t : FL, RowRep w 5 (fun t : FL => Fld.row t.1) t cs := by
  intro fuel cs x h hW
  obtain ⟨xs, n, hn, hx, hl, hxs, hat⟩ := DataW.trod_struct Tryd.underlying60 h
  rw [hx] at hW
  rw [c2.2.2.1] at hl
  replace hxs : xs.length = 4 := hxs
  obtain ⟨s, r0⟩ := f_str (hat 0 _ rfl) (some_at xs 0 (by omega))
  obtain ⟨t, ht, r1⟩ := f_T (struct_at (ps := []) (i := 1) Tryd.underlying60 hW rfl (some_at xs 1 (by omega))) (hat 1 _ rfl) (some_at xs 1 (by omega))
  obtain ⟨a, r2⟩ := f_int (hat 2 _ rfl) (some_at xs 2 (by omega))
  obtain ⟨b, r3⟩ := f_int (hat 3 _ rfl) (some_at xs 3 (by omega))
  refine ⟨⟨⟨s, t, a, b⟩, ht⟩, hl, fun j hj => ?_⟩
  simp only [T.row_eq] at r1
  show RepD _ _ (dat (Fld.row ⟨s, t, a, b⟩) j) _
  rw [Fld.row_eq]
  match j, hj with
  | 0, _ => exact r0
  | 1, _ => exact r1 0 (by omega)
  | 2, _ => exact r1 1 (by omega)
  | 3, _ => exact r2
  | 4, _ => exact r3
theorem rep_N : ∀ fuel cs x, DataW.trod enc Tryd.prog w base spare held fuel 62 cs = some x → (x.1.weights Tryd.prog 62).all (· ≤ reachBytes) = true → ∃ t : NL, RowRep w 14 (fun t : NL => Fnc.row t.1) t cs := by
  intro fuel cs x h hW
  obtain ⟨xs, n, hn, hx, hl, hxs, hat⟩ := DataW.trod_struct Tryd.underlying62 h
  rw [hx] at hW
  rw [c2.2.2.2.1] at hl
  replace hxs : xs.length = 6 := hxs
  obtain ⟨s, r0⟩ := f_str (hat 0 _ rfl) (some_at xs 0 (by omega))
  obtain ⟨l, hll, r1⟩ := f_list (row := fun t : FL => Fld.row t.1) Tryd.underlying22 c1.2.2.2.2.2.1 c2.2.2.1 (by omega) (fun m hm => rep_F m) (of_decide_eq_true (by kernel_rfl)) (struct_at (ps := []) (i := 1) Tryd.underlying62 hW rfl (some_at xs 1 (by omega))) (hat 1 _ rfl) (some_at xs 1 (by omega))
  obtain ⟨t, ht, r2⟩ := f_T (struct_at (ps := []) (i := 2) Tryd.underlying62 hW rfl (some_at xs 2 (by omega))) (hat 2 _ rfl) (some_at xs 2 (by omega))
  obtain ⟨e, he, r3⟩ := f_E (struct_at (ps := []) (i := 3) Tryd.underlying62 hW rfl (some_at xs 3 (by omega))) (hat 3 _ rfl) (some_at xs 3 (by omega))
  obtain ⟨a, r4⟩ := f_int (hat 4 _ rfl) (some_at xs 4 (by omega))
  obtain ⟨b, r5⟩ := f_int (hat 5 _ rfl) (some_at xs 5 (by omega))
  refine ⟨⟨⟨s, l.map (·.1), t, e, a, b⟩, ⟨by rw [List.length_map]; exact hll, vals l, ht, he⟩⟩, hl, fun j hj => ?_⟩
  simp only [T.row_eq] at r2
  simp only [E.row_eq] at r3
  have e1 : l.map (fun t : FL => Fld.row t.1) = Fld.rows (l.map (·.1)) := by unfold Fld.rows; rw [List.map_map]; rfl
  rw [e1] at r1
  show RepD _ _ (dat (Fnc.row ⟨s, l.map (·.1), t, e, a, b⟩) j) _
  rw [Fnc.row_eq]
  match j, hj with
  | 0, _ => exact r0
  | 1, _ => exact r1
  | 2, _ => exact r2 0 (by omega)
  | 3, _ => exact r2 1 (by omega)
  | 4, _ => exact r3 0 (by omega)
  | 5, _ => exact r3 1 (by omega)
  | 6, _ => exact r3 2 (by omega)
  | 7, _ => exact r3 3 (by omega)
  | 8, _ => exact r3 4 (by omega)
  | 9, _ => exact r3 5 (by omega)
  | 10, _ => exact r3 6 (by omega)
  | 11, _ => exact r3 7 (by omega)
  | 12, _ => exact r4
  | 13, _ => exact r5
/-- A program, handed over. -/
theorem arg_P {fuel : Nat} {v : Value} {x : DataW H × List MemPlace} (hv : ∃ u, v = .agg u) (h : DataW.trod enc Tryd.prog w base spare held fuel 30 v.cells.toList = some x) (hW : (x.1.weights Tryd.prog 30).all (· ≤ reachBytes) = true) : ∃ p : Pg, LenP p ∧ RepV (g0 w) (pV p) v := by
  obtain ⟨u, rfl⟩ := hv
  obtain ⟨xs, n, hn, hx, hl, hxs, hat⟩ := DataW.trod_struct Tryd.underlying30 h
  rw [hx] at hW
  rw [c2.2.2.2.2] at hl
  replace hxs : xs.length = 3 := hxs
  obtain ⟨l, hll, r0⟩ := f_list (row := fun t : FL => Fld.row t.1) Tryd.underlying22 c1.2.2.2.2.2.1 c2.2.2.1 (by omega) (fun m hm => rep_F m) (of_decide_eq_true (by kernel_rfl)) (struct_at (ps := []) (i := 0) Tryd.underlying30 hW rfl (some_at xs 0 (by omega))) (hat 0 _ rfl) (some_at xs 0 (by omega))
  obtain ⟨q, hql, r1⟩ := f_list (row := fun t : NL => Fnc.row t.1) Tryd.underlying23 c1.2.2.2.2.2.2.1 c2.2.2.2.1 (by omega) (fun m hm => rep_N m) (of_decide_eq_true (by kernel_rfl)) (struct_at (ps := []) (i := 1) Tryd.underlying30 hW rfl (some_at xs 1 (by omega))) (hat 1 _ rfl) (some_at xs 1 (by omega))
  obtain ⟨e, he, r2⟩ := f_E (struct_at (ps := []) (i := 2) Tryd.underlying30 hW rfl (some_at xs 2 (by omega))) (hat 2 _ rfl) (some_at xs 2 (by omega))
  have e1 : l.map (fun t : FL => Fld.row t.1) = Fld.rows (l.map (·.1)) := by unfold Fld.rows; rw [List.map_map]; rfl
  have e2 : q.map (fun t : NL => Fnc.row t.1) = Fnc.rows (q.map (·.1)) := by unfold Fnc.rows; rw [List.map_map]; rfl
  rw [e1] at r0
  rw [e2] at r1
  simp only [E.row_eq] at r2
  refine ⟨⟨l.map (·.1), q.map (·.1), e⟩, ⟨by rw [List.length_map]; exact hll, vals l, by rw [List.length_map]; exact hql, vals q, he⟩, ?_⟩
  have key := RepV.agg (g := g0 w) (pX ⟨l.map (·.1), q.map (·.1), e⟩) u.toList hl (fun j hj => by
    replace hj : j < 10 := hj
    match j, hj with
    | 0, _ => exact .d _ _ r0
    | 1, _ => exact .d _ _ r1
    | 2, _ => exact .d _ _ (r2 0 (by omega))
    | 3, _ => exact .d _ _ (r2 1 (by omega))
    | 4, _ => exact .d _ _ (r2 2 (by omega))
    | 5, _ => exact .d _ _ (r2 3 (by omega))
    | 6, _ => exact .d _ _ (r2 4 (by omega))
    | 7, _ => exact .d _ _ (r2 5 (by omega))
    | 8, _ => exact .d _ _ (r2 6 (by omega))
    | 9, _ => exact .d _ _ (r2 7 (by omega)))
  exact key
end
end Go.Proofs.YtaphnbaiamnfpaaDoor.Ps
namespace Go.Proofs.YtaphnbaiamnfpaaDoor
open Go Go.RowKit Go.Proofs.YtaphnbaiamnfpaaDoor.Ps
def laidV : List (String × DataW Unit) := [("math/bits.deBruijn32tab", Rows.laid_math_bits_deBruijn32tab), ("math/bits.deBruijn64tab", Rows.laid_math_bits_deBruijn64tab), ("internal/strconv.uint64pow10", Rows.laid_internal_strconv_uint64pow10)]
set_option maxRecDepth 100000
theorem sane_of_laid {W : World} (h : laidMetH Tryd.prog laidV W) (hS : W.ShapedOpen Tryd.prog) : Sane W := by
  rw [MakeChecks.laidMetH_plain _ _ _ (by kernel_rfl)] at h
  obtain ⟨ps, ⟨g0, t0, cs0, f0, p0, q0, hg0, ht0, hv0, hd0, ⟨g1, t1, cs1, f1, p1, q1, hg1, ht1, hv1, hd1, ⟨g2, t2, cs2, f2, p2, q2, hg2, ht2, hv2, hd2, _, _⟩, _⟩, _⟩, _⟩ := h
  have gP : Tryd.prog.globalNamed "internal/strconv.uint64pow10" = some 1 := by kernel_rfl
  have yP : (Tryd.prog.globals[1]?).map (·.type) = some 157 := by kernel_rfl
  obtain rfl := Option.some.inj (gP.symm.trans hg2)
  obtain rfl := Option.some.inj (yP.symm.trans ht2)
  refine ⟨out_of_shaped hS, ?_⟩
  have e : (Rows.laid_internal_strconv_uint64pow10 : DataW Unit) = Lib.tabData .u64 Lib.pow10Tab := by kernel_rfl
  rw [e] at hd2
  have := Lib.cells_of_tab Tryd.underlying157 Tryd.underlying142 (by kernel_rfl) (by kernel_rfl) hd2
  unfold Lib.TabIs
  rw [hv2, ← this]
end Go.Proofs.YtaphnbaiamnfpaaDoor
namespace Go.Proofs.YtaphnbaiamnfpaaDoor.Ps
set_option linter.unusedVariables false
set_option linter.unusedSimpArgs false
open Go Go.RowKit Px
open Lx (Tok)

theorem isEmpty_len {α : Type} (l : List α) : (Int.ofNat l.length == 0) = l.isEmpty := by
  cases l with
  | nil => rfl
  | cons a r => exact beq_eq_false_iff_ne.2 (by simp only [List.length_cons, Int.ofNat_eq_natCast]; omega)
theorem C_deepV : ∀ (d : Nat), d ≤ 40 → ∀ t : T, LenT t → Cal 50 [tV t, V.one (iX (Int.ofNat d))] [] (YB (rightT d t))
  | 0, _, .mk k l, hl => by
    refine call50 _ _ _ ?_
    simp only [e50_eq]
    refine Ev.yes rfl (Ev.rb ?_)
    rw [rightT]
  | d + 1, hd, .mk k l, hl => by
    refine call50 _ _ _ ?_
    simp only [e50_eq]
    refine Ev.no (decide_eq_false (by simp only [Int.ofNat_eq_natCast]; omega)) ?_
    rw [LenT] at hl
    have hw : IntKind.wrap .i64 (Int.ofNat (d + 1) - 1) = Int.ofNat d := by
      rw [wrap_in _ (by simp only [Int.ofNat_eq_natCast]; omega) (by simp only [Int.ofNat_eq_natCast]; omega)]
      simp only [Int.ofNat_eq_natCast]; omega
    have one : ∀ x ∈ l, Cal 87 [tV x, V.one (X.ptr 0 0)] [([Lf.int IntKind.i64], [iX (Int.ofNat (d + 1))])] (Out.mk true (V.one (bX (!rightT d x))) D.junk [[iX (Int.ofNat (d + 1))]] 0) := fun x hx => by
      refine call87 _ _ _ ?_
      simp only [e87_eq]
      rw [hw]
      exact v_oB (C_deepV d (by omega) x (lenTs_mem hl.2 x hx)) (Ev.ret _)
    have loop : ∀ (z i : Nat), i ≤ l.length → l.length - i = z → ∃ v : Int, Ev (fun m k' y => l107_0 m (Ak k') y (Int.ofNat (d + 1)) (T.rows l) (Int.ofNat l.length) (Int.ofNat i) (Int.ofNat (d + 1))) (Out.mk true (V.one (iX v)) D.junk [[iX (Int.ofNat (d + 1))]] 0) ∧ decide (v ≥ 0) = !((l.drop i).all (rightT d)) := by
      intro z
      induction z with
      | zero =>
        intro i hi hz
        rw [List.drop_eq_nil_of_le (by omega)]
        refine ⟨-1, Ev.step ?_, rfl⟩
        simp only [l107_0_eq]
        exact Ev.no (lt_no i _ (by omega)) (Ev.of fun m k n => by rw [q107_2_eq])
      | succ z ih =>
        intro i hi hz
        have hlt : i < l.length := by omega
        rw [all_drop _ _ _ hlt]
        cases hn : rightT d l[i] with
        | false =>
          refine ⟨Int.ofNat i, Ev.step ?_, by simp⟩
          simp only [l107_0_eq]
          refine Ev.yes (lt_yes i _ hlt) ?_
          simp only [q107_0_eq, tn, T.rows_at l i hlt, T.row_eq, T.rows_len]
          refine Ev.yes (in_range i _ hlt) (v_oB_I (one _ (List.getElem_mem hlt)) ?_)
          rw [hn]
          exact Ev.yes rfl (Ev.ret _)
        | true =>
          obtain ⟨v, hv, hd'⟩ := ih (i + 1) (by omega) (by omega)
          refine ⟨v, Ev.step ?_, by rw [hd', Bool.true_and]⟩
          simp only [l107_0_eq]
          refine Ev.yes (lt_yes i _ hlt) ?_
          simp only [q107_0_eq, tn, T.rows_at l i hlt, T.row_eq, T.rows_len]
          refine Ev.yes (in_range i _ hlt) (v_oB_I (one _ (List.getElem_mem hlt)) ?_)
          rw [hn]
          refine Ev.no rfl ?_
          simp only [q107_1_eq, wrap_up i (show i < 9223372036854775807 by omega)]
          exact hv
    have any : Cal 86 [V.one (X.d (D.list 2 (T.rows l))), V.one (X.fn 87 [X.ptr 0 0])] [([Lf.int IntKind.i64], [iX (Int.ofNat (d + 1))])] (Out.mk true (V.one (bX (!(l.all (rightT d))))) D.junk [[iX (Int.ofNat (d + 1))]] 0) := by
      obtain ⟨v, hv, hd'⟩ := loop _ 0 (Nat.zero_le _) rfl
      refine call86f87 _ _ ?_
      simp only [e86f87_eq]
      refine v_oI_I (y0 := v) (y1 := Int.ofNat (d + 1)) ?_ ?_
      · refine call107f87 _ _ ?_
        simp only [e107f87_eq, T.rows_len]
        exact Ev.diag hv
      · refine Ev.of fun m k n => ?_
        rw [hd', List.drop_zero]
    have last : Ev (fun _ k' m => q50_2 (Ak k') m k (T.rows l) (Int.ofNat (d + 1))) (YB (l.all (rightT d))) := by
      simp only [q50_2_eq]
      refine v_oB_I any (Ev.rb (by rw [Bool.not_not]))
    rw [rightT, rightTs_all]
    show Ev (fun _ k' m => q50_0 (Ak k') m k (T.rows l) (Int.ofNat (d + 1))) _
    simp only [q50_0_eq, q50_1_eq, i_beq, T.rows_len]
    have two : ∀ b : Bool, b = decide (k = 1 ∨ k = 2) → Ev (fun _ k' m => bif b then some (Out.mk true (V.one (X.d (D.bool (Int.ofNat l.length == 0)))) D.junk [] 0) else bif decide (k = 3) then bif decide (Int.ofNat l.length < 2) then some (Out.mk true (V.one (X.d (D.bool false))) D.junk [] 0) else bif decide (Int.ofNat l.length > 4) then some (Out.mk true (V.one (X.d (D.bool false))) D.junk [] 0) else q50_2 (Ak k') m k (T.rows l) (Int.ofNat (d + 1)) else bif decide (k = 4) then bif Int.ofNat l.length != 1 then some (Out.mk true (V.one (X.d (D.bool false))) D.junk [] 0) else q50_2 (Ak k') m k (T.rows l) (Int.ofNat (d + 1)) else some (Out.mk true (V.one (X.d (D.bool false))) D.junk [] 0))
        (YB ((if k = 1 ∨ k = 2 then l.isEmpty else if k = 3 then decide (2 ≤ l.length) && decide (l.length ≤ 4) else if k = 4 then decide (l.length = 1) else false) && l.all (rightT d))) := fun b hb => by
      subst hb
      refine Ev.ifb (fun h => ?_) (fun h => ?_)
      · rw [if_pos (of_decide_eq_true h)]
        refine Ev.rb ?_
        rw [isEmpty_len]
        cases l with
        | nil => rfl
        | cons a r => rfl
      · rw [if_neg (of_decide_eq_false h)]
        refine Ev.ifb (fun h3 => ?_) (fun h3 => ?_)
        · rw [if_pos (of_decide_eq_true h3)]
          refine Ev.ifb (fun h4 => Ev.rb ?_) (fun h4 => Ev.ifb (fun h5 => Ev.rb ?_) (fun h5 => ?_))
          · have h4 := of_decide_eq_true h4
            simp only [Int.ofNat_eq_natCast] at h4
            rw [decide_eq_false (by omega : ¬ 2 ≤ l.length)]; rfl
          · have h5 := of_decide_eq_true h5
            simp only [Int.ofNat_eq_natCast] at h5
            rw [decide_eq_false (by omega : ¬ l.length ≤ 4), Bool.and_false]; rfl
          · have h4 := of_decide_eq_false h4
            have h5 := of_decide_eq_false h5
            simp only [Int.ofNat_eq_natCast] at h4 h5
            rw [decide_eq_true (by omega : l.length ≤ 4), decide_eq_true (by omega : 2 ≤ l.length)]
            exact last
        · rw [if_neg (of_decide_eq_false h3)]
          refine Ev.ifb (fun h4 => ?_) (fun h4 => ?_)
          · rw [if_pos (of_decide_eq_true h4)]
            refine Ev.ifb (fun h5 => Ev.rb ?_) (fun h5 => ?_)
            · have h5 : ¬ l.length = 1 := fun e => by rw [e] at h5; cases h5
              rw [decide_eq_false h5]; rfl
            · have h5 : Int.ofNat l.length = 1 := by simpa using h5
              simp only [Int.ofNat_eq_natCast] at h5
              rw [decide_eq_true (by omega : l.length = 1)]
              exact last
          · rw [if_neg (of_decide_eq_false h4)]
            exact Ev.rb rfl
    refine Ev.ifb (fun h => ?_) (fun h => ?_)
    · exact two _ (by have := of_decide_eq_true h; rw [h, decide_eq_true (Or.inl this)])
    · exact two _ (by have := of_decide_eq_false h; exact decide_eq_decide.2 ⟨Or.inr, fun o => o.resolve_left this⟩)
theorem C_TypeRight (t : T) (hl : LenT t) : Cal 28 [tV t] [] (YB (rightT 40 t)) := by
  refine call28 _ _ ?_
  simp only [e28_eq]
  exact v_oB (C_deepV 40 (Nat.le_refl _) t hl) (Ev.ret _)
theorem C_typed : ∀ (d : Nat), d ≤ 40 → ∀ t : T, LenT t → Cal 54 [tV t, V.one (iX (Int.ofNat (41 - d)))] [] (YB (rightT d t)) := by
  intro d
  induction d with
  | zero => 
    intro hd t hl
    obtain ⟨k, l⟩ := t
    refine call54 _ _ _ ?_
    simp only [e54_eq, T.rows_len]
    rw [rightT]
    repeat' first | (refine Ev.ifb (fun h => ?_) (fun h => ?_)) | exact Ev.rb rfl
    all_goals (rename_i h; exact absurd h (by decide))
  | succ d ih =>
    intro hd t hl
    obtain ⟨k, l⟩ := t
    rw [LenT] at hl
    have hw : IntKind.wrap .i64 (Int.ofNat (41 - (d + 1)) + 1) = Int.ofNat (41 - d) := by
      rw [wrap_in _ (by simp only [Int.ofNat_eq_natCast]; omega) (by simp only [Int.ofNat_eq_natCast]; omega)]
      simp only [Int.ofNat_eq_natCast]; omega
    have key : ∀ (z i : Nat), i ≤ l.length → l.length - i = z → Ev (fun m k' y => l54_0 m (Ak k') y (Int.ofNat (41 - (d + 1))) (Int.ofNat l.length) (Int.ofNat i) k (T.rows l)) (YB ((l.drop i).all (rightT d))) := by
      intro z
      induction z with
      | zero =>
        intro i hi hz
        rw [List.drop_eq_nil_of_le (by omega)]
        refine Ev.step ?_
        simp only [l54_0_eq]
        exact Ev.no (lt_no i _ (by omega)) (Ev.of fun m k n => by rw [q54_3_eq]; rfl)
      | succ z ihz =>
        intro i hi hz
        have hlt : i < l.length := by omega
        rw [all_drop _ _ _ hlt]
        refine Ev.step ?_
        simp only [l54_0_eq]
        refine Ev.yes (lt_yes i _ hlt) ?_
        simp only [q54_1_eq, tn, T.rows_at l i hlt, T.row_eq, T.rows_len]
        refine Ev.yes (in_range i _ hlt) ?_
        rw [hw]
        refine v_oB (ih (by omega) l[i] (lenTs_mem hl.2 _ (List.getElem_mem hlt))) ?_
        cases hn : rightT d l[i] with
        | false => exact Ev.yes rfl (Ev.rb rfl)
        | true =>
          refine Ev.no rfl ?_
          simp only [q54_2_eq, wrap_up i (show i < 9223372036854775807 by omega)]
          exact ihz (i + 1) (by omega) (by omega)
    have last : Ev (fun _ k' m => q54_0 (Ak k') m (Int.ofNat (41 - (d + 1))) (Int.ofNat l.length) k (T.rows l)) (YB (l.all (rightT d))) := by
      simp only [q54_0_eq]
      exact Ev.diag' (key _ 0 (Nat.zero_le _) rfl)
    refine call54 _ _ _ ?_
    simp only [e54_eq, T.rows_len, i_beq, T.k, T.l]
    have fin : ∀ b : Bool, b = true → Ev (fun _ k' m => bif decide (Int.ofNat (41 - (d + 1)) > 40) then some (Out.mk true (V.one (X.d (D.bool false))) D.junk [] 0) else q54_0 (Ak k') m (Int.ofNat (41 - (d + 1))) (Int.ofNat l.length) k (T.rows l)) (YB (b && l.all (rightT d))) := fun b hb => by
      subst hb
      rw [Bool.true_and]
      exact Ev.no (decide_eq_false (by simp only [Int.ofNat_eq_natCast]; omega)) last
    rw [rightT, rightTs_all]
    have he : l.isEmpty = decide (l.length = 0) := by cases l <;> rfl
    rw [he]
    generalize hL : l.all (rightT d) = L at fin ⊢
    clear last key ih
    generalize l.length = nl at *
    have e0 : (Int.ofNat nl == 0) = decide (nl = 0) := len_beq nl 0
    have e1 : (Int.ofNat nl == 1) = decide (nl = 1) := len_beq nl 1
    have e2 : decide (Int.ofNat nl = 0) = decide (nl = 0) := by rw [← i_beq]; exact e0
    have e3 : decide (Int.ofNat nl = 1) = decide (nl = 1) := by rw [← i_beq]; exact e1
    have rest : ∀ C : Bool, (C = true → Ev (fun _ k' m => bif decide (Int.ofNat (41 - (d + 1)) > 40) then some (Out.mk true (V.one (X.d (D.bool false))) D.junk [] 0) else q54_0 (Ak k') m (Int.ofNat (41 - (d + 1))) (Int.ofNat nl) k (T.rows l)) (YB (C && L))) := fun C hC => fin C hC
    clear fin
    simp only [e0, e1, e2, e3]
    clear e0 e1 e2 e3
    have tail : ∀ C : Bool, C = false → (some (Out.mk true (V.one (X.d (D.bool false))) D.junk [] 0) = some (YB (C && L))) := fun C hC => by rw [hC]; rfl
    by_cases k1 : k = 1
    · subst k1
      simp only [Int.reduceEq, decide_true, decide_false, if_true, if_false, true_or, or_true, or_self, or_false, false_or]
      refine Ev.yes rfl (Ev.ifb (fun h => rest _ h) (fun h => Ev.no rfl (Ev.no rfl (Ev.rb ?_))))
      rw [h]; rfl
    by_cases k2 : k = 2
    · subst k2
      simp only [Int.reduceEq, decide_true, decide_false, if_true, if_false, true_or, or_true, or_self, or_false, false_or]
      refine Ev.no rfl (Ev.yes rfl (Ev.ifb (fun h => rest _ h) (fun h => Ev.no rfl (Ev.no rfl (Ev.rb ?_)))))
      rw [h]; rfl
    by_cases k3 : k = 3
    · subst k3
      simp only [Int.reduceEq, decide_true, decide_false, if_true, if_false, true_or, or_true, or_self, or_false, false_or]
      refine Ev.no rfl (Ev.no rfl (Ev.yes rfl (Ev.ifb (fun h => ?_) (fun h => Ev.no rfl (Ev.rb ?_)))))
      · have h := of_decide_eq_true h
        simp only [Int.ofNat_eq_natCast] at h
        refine Ev.ifb (fun h5 => ?_) (fun h5 => Ev.no rfl (Ev.rb ?_))
        · have h5 := of_decide_eq_true h5
          simp only [Int.ofNat_eq_natCast] at h5
          refine rest _ ?_
          rw [decide_eq_true (by omega : 2 ≤ nl), decide_eq_true (by omega : nl ≤ 4)]; rfl
        · have h5 := of_decide_eq_false h5
          simp only [Int.ofNat_eq_natCast] at h5
          rw [decide_eq_false (by omega : ¬ nl ≤ 4), Bool.and_false]; rfl
      · have h := of_decide_eq_false h
        simp only [Int.ofNat_eq_natCast] at h
        rw [decide_eq_false (by omega : ¬ 2 ≤ nl)]; rfl
    by_cases k4 : k = 4
    · subst k4
      simp only [Int.reduceEq, decide_true, decide_false, if_true, if_false, true_or, or_true, or_self, or_false, false_or]
      refine Ev.no rfl (Ev.no rfl (Ev.no rfl (Ev.yes rfl (Ev.ifb (fun h => Ev.rb ?_) (fun h => rest _ ?_)))))
      · have h : decide (nl = 1) = false := by simpa using h
        rw [h]; rfl
      · simpa using h
    · simp only [k1, k2, k3, k4, decide_false, if_false, or_self]
      exact Ev.no rfl (Ev.no rfl (Ev.no rfl (Ev.no rfl (Ev.rb rfl))))
theorem C_rTypeRight (t : T) (hl : LenT t) : Cal 31 [tV t] [] (YB (rightT 40 t)) := by
  refine call31 _ _ ?_
  simp only [e31_eq]
  exact v_oB (C_typed 40 (Nat.le_refl _) t hl) (Ev.ret _)

theorem drows' (s : Nat) (r : List (List D)) : D.rows (D.list s r) = r := rfl
theorem C_field (f : Fld) (h : LenT f.typ) : Cal 26 [fdV f] [] (YB (rightF f)) := by
  refine call26 _ _ _ _ _ ?_
  simp only [e26_eq]
  refine v_oB (C_name f.name) ?_
  unfold rightF
  cases isName f.name with
  | false => exact Ev.no rfl (Ev.rb rfl)
  | true =>
    refine Ev.yes rfl (v_oB (C_TypeRight f.typ h) (Ev.rb ?_))
    rw [Bool.true_and]
/-- A loop's answer over a list, one look for each. -/
theorem all_loop {α : Type} (f : α → Bool) (a : List α) (z : Bool) {F : Nat → Nat → Nat → Nat → Option Out}
    (hend : Ev (fun m k n => F (m + 1) k n a.length) (YB z))
    (hstep : ∀ i (h : i < a.length), ∀ r : Bool, Ev (fun m k n => F m k n (i + 1)) (YB r) → Ev (fun m k n => F (m + 1) k n i) (YB (f a[i] && r))) :
    ∀ d i, i ≤ a.length → a.length - i = d → Ev (fun m k n => F m k n i) (YB ((a.drop i).all f && z)) := by
  intro d
  induction d with
  | zero =>
    intro i hi hd
    obtain rfl : i = a.length := by omega
    rw [List.drop_eq_nil_of_le (Nat.le_refl _)]
    exact Ev.step hend
  | succ d ih =>
    intro i hi hd
    have hlt : i < a.length := by omega
    rw [all_drop _ _ _ hlt, Bool.and_assoc]
    exact Ev.step (hstep i hlt _ (ih (i + 1) (by omega) (by omega)))
theorem Ev.shift {F : Nat → Nat → Nat → Option Out} {o : Out} (c : Nat) (h : Ev F o) : Ev (fun m k n => F (m + c) k n) o := by
  obtain ⟨K, hK⟩ := h
  exact ⟨K, fun m k n h1 h2 h3 => hK (m + c) k n (by omega) h2 h3⟩
theorem C_fields (l : List Fld) (hl : l.length ≤ 140737488351232) (h : ∀ x ∈ l, LenT x.typ) : Cal 29 [V.one (X.d (D.list 5 (Fld.rows l)))] [] (YB (l.all rightF)) := by
  refine call29 _ ?_
  simp only [e29_eq]
  have key := all_loop rightF l true (F := fun m k n i => l29_0 m (Ak k) n (Fld.rows l) (Int.ofNat i)) (by
      simp only [l29_0_eq, Fld.rows_len]
      exact Ev.no (lt_no _ _ (Nat.le_refl _)) (Ev.of fun m k n => by rw [q29_2_eq])) (fun i hi r hr => by
      simp only [l29_0_eq, Fld.rows_len]
      refine Ev.yes (lt_yes i _ hi) ?_
      simp only [q29_0_eq, tn, Fld.rows_at l i hi, Fld.row_eq, Fld.rows_len]
      refine Ev.yes (in_range i _ hi) (v_oB (C_rname l[i].name) ?_)
      unfold rightF
      cases hn : isName l[i].name with
      | false => exact Ev.yes rfl (Ev.rb rfl)
      | true =>
        refine Ev.no rfl (Ev.yes (in_range i _ hi) (v_oB (C_rTypeRight l[i].typ (h _ (List.getElem_mem hi))) ?_))
        cases rightT 40 l[i].typ with
        | false => exact Ev.yes rfl (Ev.rb rfl)
        | true =>
          refine Ev.no rfl ?_
          simp only [q29_1_eq, wrap_up i (show i < 9223372036854775807 by omega)]
          exact hr) _ 0 (Nat.zero_le _) rfl
  rw [Bool.and_true, List.drop_zero] at key
  exact Ev.diag key
theorem C_Right (p : Pg) (h : LenP p) : Cal 9 [pV p] [] (YB (rightP p)) := by
  refine call9 _ _ _ _ _ _ _ _ _ _ ?_
  simp only [e9_eq, Fld.rows_len]
  have hin := h.inl
  have hfl := h.fl
  have last : Ev (fun _ k n => q9_8 (Ak k) n (Fld.rows p.inputs) (Fnc.rows p.funs) p.query.k p.query.n (bx p.query.name) (strs p.query.names) (ints p.query.odds) (E.rows p.query.kids) p.query.line p.query.col) (YB (rightE 40 p.query)) := by
    simp only [q9_8_eq]
    exact v_oB (C_RightExpr p.query h.query) (Ev.ret _)
  have pars : ∀ (g : Fnc) (i : Nat) (z : Bool), LenFn g → Ev (fun m k n => q9_6 (Ak k) m n (Fnc.rows p.funs) (Int.ofNat p.funs.length) (Int.ofNat i) (Fld.rows p.inputs) (Fnc.rows p.funs) p.query.k p.query.n (bx p.query.name) (strs p.query.names) (ints p.query.odds) (E.rows p.query.kids) p.query.line p.query.col (D.str (bx g.name)) (D.list 5 (Fld.rows g.params)) (D.int .i64 g.res.k) (D.list 2 (T.rows g.res.l)) (D.int .i64 g.body.k) (D.int .i64 g.body.n) (D.str (bx g.body.name)) (D.list 1 (strs g.body.names)) (D.list 1 (ints g.body.odds)) (D.list 8 (E.rows g.body.kids)) (D.int .i64 g.body.line) (D.int .i64 g.body.col) (D.int .i64 g.line) (D.int .i64 g.col)) (YB z) →
      Ev (fun m k n => l9_2 m (Ak k) m n (Fnc.rows p.funs) (Int.ofNat p.funs.length) (Int.ofNat i) (D.list 5 (Fld.rows g.params)) (Int.ofNat g.params.length) 0 (Fld.rows p.inputs) (Fnc.rows p.funs) p.query.k p.query.n (bx p.query.name) (strs p.query.names) (ints p.query.odds) (E.rows p.query.kids) p.query.line p.query.col (D.str (bx g.name)) (D.list 5 (Fld.rows g.params)) (D.int .i64 g.res.k) (D.list 2 (T.rows g.res.l)) (D.int .i64 g.body.k) (D.int .i64 g.body.n) (D.str (bx g.body.name)) (D.list 1 (strs g.body.names)) (D.list 1 (ints g.body.odds)) (D.list 8 (E.rows g.body.kids)) (D.int .i64 g.body.line) (D.int .i64 g.body.col) (D.int .i64 g.line) (D.int .i64 g.col)) (YB (g.params.all rightF && z)) := fun g i z hg hz => by
    have hp := hg.par
    have key := all_loop rightF g.params z (F := fun m k n j => l9_2 m (Ak k) (m + j) n (Fnc.rows p.funs) (Int.ofNat p.funs.length) (Int.ofNat i) (D.list 5 (Fld.rows g.params)) (Int.ofNat g.params.length) (Int.ofNat j) (Fld.rows p.inputs) (Fnc.rows p.funs) p.query.k p.query.n (bx p.query.name) (strs p.query.names) (ints p.query.odds) (E.rows p.query.kids) p.query.line p.query.col (D.str (bx g.name)) (D.list 5 (Fld.rows g.params)) (D.int .i64 g.res.k) (D.list 2 (T.rows g.res.l)) (D.int .i64 g.body.k) (D.int .i64 g.body.n) (D.str (bx g.body.name)) (D.list 1 (strs g.body.names)) (D.list 1 (ints g.body.odds)) (D.list 8 (E.rows g.body.kids)) (D.int .i64 g.body.line) (D.int .i64 g.body.col) (D.int .i64 g.line) (D.int .i64 g.col)) (by
        simp only [l9_2_eq]
        exact Ev.no (lt_no _ _ (Nat.le_refl _)) (Ev.of_eq (fun m k n => by rw [Nat.add_assoc m 1]) (hz.shift (1 + g.params.length)))) (fun j hj r hr => by
        simp only [l9_2_eq]
        refine Ev.yes (lt_yes j _ hj) ?_
        simp only [q9_4_eq, tn, drows', Fld.rows_at g.params j hj, Fld.row_eq, Fld.rows_len, List.getD_cons_succ, List.getD_cons_zero]
        refine Ev.yes rfl (Ev.yes (in_range j _ hj) (v_oB (C_field g.params[j] (hg.typ _ (List.getElem_mem hj))) ?_))
        cases rightF g.params[j] with
        | false => exact Ev.yes rfl (Ev.rb rfl)
        | true =>
          refine Ev.no rfl ?_
          simp only [q9_5_eq, wrap_up j (show j < 9223372036854775807 by omega)]
          exact Ev.of_eq (fun m k n => by rw [Nat.add_assoc m 1 j, Nat.add_comm 1 j]) hr) _ 0 (Nat.zero_le _) rfl
    exact key
  have funs := all_loop rightFn p.funs (rightE 40 p.query) (F := fun m k n i => l9_1 m (Ak k) n (Fnc.rows p.funs) (Int.ofNat p.funs.length) (Int.ofNat i) (Fld.rows p.inputs) (Fnc.rows p.funs) p.query.k p.query.n (bx p.query.name) (strs p.query.names) (ints p.query.odds) (E.rows p.query.kids) p.query.line p.query.col) (by
      simp only [l9_1_eq]
      exact Ev.no (lt_no _ _ (Nat.le_refl _)) last) (fun i hi r hr => by
      simp only [l9_1_eq]
      refine Ev.yes (lt_yes i _ hi) ?_
      have hg := h.fn _ (List.getElem_mem hi)
      have hgg : rightFn p.funs[i] = (p.funs[i].params.all rightF && (isName p.funs[i].name && (rightT 40 p.funs[i].res && rightE 40 p.funs[i].body))) := by unfold rightFn; rw [Bool.and_assoc, Bool.and_assoc]
      rw [hgg, Bool.and_assoc]
      simp only [q9_3_eq, tn, Fnc.rows_at p.funs i hi, Fnc.row_eq, List.getD_cons_succ, List.getD_cons_zero, Fnc.rows_len, drows', Fld.rows_len]
      refine Ev.yes (in_range i _ hi) (Ev.yes rfl ?_)
      refine pars p.funs[i] i _ hg ?_
      simp only [q9_6_eq]
      refine v_oB (C_name p.funs[i].name) ?_
      cases isName p.funs[i].name with
      | false => exact Ev.yes rfl (Ev.rb rfl)
      | true =>
        refine Ev.no rfl (v_oB (C_TypeRight p.funs[i].res hg.res) ?_)
        cases rightT 40 p.funs[i].res with
        | false => exact Ev.yes rfl (Ev.rb rfl)
        | true =>
          refine Ev.no rfl (v_oB (C_RightExpr p.funs[i].body hg.body) ?_)
          cases rightE 40 p.funs[i].body with
          | false => exact Ev.yes rfl (Ev.rb rfl)
          | true =>
            refine Ev.no rfl ?_
            simp only [q9_7_eq, wrap_up i (show i < 9223372036854775807 by omega)]
            exact hr) _ 0 (Nat.zero_le _) rfl
  have ins := all_loop rightF p.inputs (p.funs.all rightFn && rightE 40 p.query) (F := fun m k n i => l9_0 m (Ak k) n (Fld.rows p.inputs) (Int.ofNat p.inputs.length) (Int.ofNat i) (Fld.rows p.inputs) (Fnc.rows p.funs) p.query.k p.query.n (bx p.query.name) (strs p.query.names) (ints p.query.odds) (E.rows p.query.kids) p.query.line p.query.col) (by
      simp only [l9_0_eq]
      refine Ev.no (lt_no _ _ (Nat.le_refl _)) ?_
      simp only [q9_2_eq, Fnc.rows_len]
      exact Ev.diag' funs) (fun i hi r hr => by
      simp only [l9_0_eq]
      refine Ev.yes (lt_yes i _ hi) ?_
      simp only [q9_0_eq, tn, Fld.rows_at p.inputs i hi, Fld.row_eq, Fld.rows_len, List.getD_cons_succ, List.getD_cons_zero]
      refine Ev.yes (in_range i _ hi) (v_oB (C_field p.inputs[i] (h.inp _ (List.getElem_mem hi))) ?_)
      cases rightF p.inputs[i] with
      | false => exact Ev.yes rfl (Ev.rb rfl)
      | true =>
        refine Ev.no rfl ?_
        simp only [q9_1_eq, wrap_up i (show i < 9223372036854775807 by omega)]
        exact hr) _ 0 (Nat.zero_le _) rfl
  rw [List.drop_zero, ← Bool.and_assoc] at ins
  exact Ev.diag ins
theorem C_rRight (p : Pg) (h : LenP p) : Cal 10 [pV p] [] (YB (rightP p)) := by
  refine call10 _ _ _ _ _ _ _ _ _ _ ?_
  simp only [e10_eq]
  have hfl := h.fl
  refine v_oB (C_fields p.inputs h.inl h.inp) ?_
  unfold rightP
  cases p.inputs.all rightF with
  | false => exact Ev.yes rfl (Ev.rb rfl)
  | true =>
    refine Ev.no rfl ?_
    rw [Bool.true_and]
    simp only [q10_0_eq]
    have funs := all_loop rightFn p.funs (rightE 40 p.query) (F := fun m k n i => l10_0 m (Ak k) n (Int.ofNat i) (Fld.rows p.inputs) (Fnc.rows p.funs) p.query.k p.query.n (bx p.query.name) (strs p.query.names) (ints p.query.odds) (E.rows p.query.kids) p.query.line p.query.col) (by
        simp only [l10_0_eq, Fnc.rows_len]
        refine Ev.no (lt_no _ _ (Nat.le_refl _)) ?_
        simp only [q10_3_eq]
        exact v_oB (C_rRightExpr p.query h.query) (Ev.ret _)) (fun i hi r hr => by
        simp only [l10_0_eq, Fnc.rows_len]
        refine Ev.yes (lt_yes i _ hi) ?_
        have hg := h.fn _ (List.getElem_mem hi)
        have hgg : rightFn p.funs[i] = (isName p.funs[i].name && (p.funs[i].params.all rightF && (rightT 40 p.funs[i].res && rightE 40 p.funs[i].body))) := by
          unfold rightFn; rw [Bool.and_comm (p.funs[i].params.all rightF), Bool.and_assoc, Bool.and_assoc]
        rw [hgg]
        simp only [q10_1_eq, tn, Fnc.rows_at p.funs i hi, Fnc.row_eq, List.getD_cons_succ, List.getD_cons_zero, Fnc.rows_len]
        refine Ev.yes (in_range i _ hi) (v_oB (C_rname p.funs[i].name) ?_)
        cases isName p.funs[i].name with
        | false => exact Ev.yes rfl (Ev.rb rfl)
        | true =>
          refine Ev.no rfl (v_oB (C_fields p.funs[i].params hg.par hg.typ) ?_)
          cases p.funs[i].params.all rightF with
          | false => exact Ev.yes rfl (Ev.rb rfl)
          | true =>
            refine Ev.no rfl (v_oB (C_rTypeRight p.funs[i].res hg.res) ?_)
            cases rightT 40 p.funs[i].res with
            | false => exact Ev.yes rfl (Ev.rb rfl)
            | true =>
              refine Ev.no rfl (v_oB (C_rRightExpr p.funs[i].body hg.body) ?_)
              cases rightE 40 p.funs[i].body with
              | false => exact Ev.yes rfl (Ev.rb rfl)
              | true =>
                refine Ev.no rfl ?_
                simp only [q10_2_eq, wrap_up i (show i < 9223372036854775807 by omega)]
                exact hr) _ 0 (Nat.zero_le _) rfl
    rw [List.drop_zero] at funs
    exact Ev.diag funs

abbrev SomeI (f : FuncId) (args : List V) : Prop := ∃ v : Int, Cal f args [] (RV (V.one (iX v)))
/-- What the size's answer means. -/
def Mean (n most v : Int) (w : Nat) : Prop := 0 ≤ n → n ≤ 1152921504606846976 → most ≤ 1152921504606846976 → n ≤ v ∧ (v ≤ n + 562949953421312 ∨ v ≤ most + 562949953421312) ∧ (v ≤ most → v = n + Int.ofNat w)
theorem L_size (e : E) (hk : e.kids.length ≤ 140737488351232) (most : Int) (H : ∀ x ∈ e.kids, ∀ n, ∃ v : Int, Cal 34 [eV x, V.one (iX n), V.one (iX most)] [] (RV (V.one (iX v))) ∧ Mean n most v (wE x)) : ∀ (d i : Nat), i ≤ e.kids.length → e.kids.length - i = d → ∀ n : Int,
    ∃ v : Int, Ev (fun m k n' => l34_0 m (Ak k) n' n most (Int.ofNat i) e.k e.n (bx e.name) (strs e.names) (ints e.odds) (E.rows e.kids) e.line e.col) (RV (V.one (iX v))) ∧
      (0 ≤ n → most ≤ 1152921504606846976 → n ≤ v ∧ (v ≤ n ∨ v ≤ most + 562949953421312) ∧ (v ≤ most → v = n + Int.ofNat (wEs (e.kids.drop i)))) := by
  intro d
  induction d with
  | zero =>
    intro i hi hd n
    refine ⟨n, Ev.step ?_, fun _ _ => ⟨Int.le_refl _, .inl (Int.le_refl _), fun _ => ?_⟩⟩
    · simp only [l34_0_eq, E.rows_len]
      exact Ev.no (lt_no i _ (by omega)) (Ev.of fun m k n' => by rw [q34_2_eq])
    · rw [List.drop_eq_nil_of_le (by omega), wEs_nil]; simp
  | succ d ih =>
    intro i hi hd n
    have hlt : i < e.kids.length := by omega
    by_cases hn : n ≤ most
    · obtain ⟨v, hv, hm⟩ := H e.kids[i] (List.getElem_mem hlt) n
      obtain ⟨w, hw, hmw⟩ := ih (i + 1) (by omega) (by omega) v
      refine ⟨w, Ev.step ?_, fun h0 h1 => ?_⟩
      · simp only [l34_0_eq, E.rows_len]
        refine Ev.yes (lt_yes i _ hlt) (Ev.yes (decide_eq_true hn) ?_)
        simp only [q34_0_eq, tn, E.rows_at e.kids i hlt, E.row_eq, E.rows_len]
        refine Ev.yes (in_range i _ hlt) (v_oI hv ?_)
        simp only [q34_1_eq, wrap_up i (show i < 9223372036854775807 by omega)]
        exact hw
      · obtain ⟨a1, a2, a3⟩ := hm h0 (by omega) h1
        obtain ⟨b1, b2, b3⟩ := hmw (by omega) h1
        rw [List.drop_eq_getElem_cons hlt, wEs_cons]
        simp only [Int.ofNat_eq_natCast] at *
        exact ⟨by omega, by omega, fun h => by have := b3 h; have := a3 (by omega); omega⟩
    · refine ⟨n, Ev.step ?_, fun _ _ => ⟨Int.le_refl _, .inl (Int.le_refl _), fun h => absurd h hn⟩⟩
      simp only [l34_0_eq, E.rows_len]
      exact Ev.yes (lt_yes i _ hlt) (Ev.no (decide_eq_false hn) (Ev.of fun m k n' => by rw [q34_2_eq]))
mutual
theorem C_size : ∀ (e : E), LenE e → ∀ n most : Int, ∃ v : Int, Cal 34 [eV e, V.one (iX n), V.one (iX most)] [] (RV (V.one (iX v))) ∧ Mean n most v (wE e)
  | .mk k c s ns os ks a b, h => fun n most => by
    rw [LenE] at h
    obtain ⟨⟨hns, hos, hks⟩, hkk⟩ := h
    have H := C_sizes ks hkk
    obtain ⟨v, hv, hm⟩ := L_size (.mk k c s ns os ks a b) hks most (fun x hx n => H x hx n most) _ 0 (Nat.zero_le _) rfl (IntKind.wrap .i64 (IntKind.wrap .i64 (IntKind.wrap .i64 (n + 1) + Int.ofNat (strs ns).length) + Int.ofNat (ints os).length))
    refine ⟨v, call34 _ _ _ _ _ _ _ _ _ _ ?_, fun h0 h1 h2 => ?_⟩
    · simp only [e34_eq]
      exact Ev.diag hv
    · rw [strs_len, ints_len, wrap_in (n + 1) (by omega) (by omega)] at hm
      simp only [Int.ofNat_eq_natCast] at hm ⊢
      rw [wrap_in (n + 1 + ↑ns.length) (by omega) (by omega), wrap_in _ (by omega) (by omega)] at hm
      obtain ⟨a1, a2, a3⟩ := hm (by omega) h2
      rw [wE_mk]
      refine ⟨by omega, by omega, fun h => ?_⟩
      have := a3 h
      rw [List.drop_zero] at this
      have e : (E.mk k c s ns os ks a b).kids = ks := rfl
      rw [e] at this
      omega
theorem C_sizes : ∀ (ks : List E), LenEs ks → ∀ x ∈ ks, ∀ n most : Int, ∃ v : Int, Cal 34 [eV x, V.one (iX n), V.one (iX most)] [] (RV (V.one (iX v))) ∧ Mean n most v (wE x)
  | [], _, x, hx => by cases hx
  | z :: r, hs, x, hx => by
    rw [LenEs] at hs
    rcases List.mem_cons.1 hx with h | h
    · rw [h]; exact C_size z hs.1
    · exact C_sizes r hs.2 x h
end
theorem L_tsize (k₀ : Int) (l : List T) (hk : l.length ≤ 140737488351232) (most : Int) (H : ∀ x ∈ l, ∀ n, SomeI 47 [tV x, V.one (iX n), V.one (iX most)]) : ∀ (d i : Nat), i ≤ l.length → l.length - i = d → ∀ n : Int,
    ∃ v : Int, Ev (fun m k n' => l47_0_v1 m (Ak k) n' n most (Int.ofNat i) k₀ (T.rows l)) (RV (V.one (iX v))) := by
  intro d
  induction d with
  | zero =>
    intro i hi hd n
    refine ⟨n, Ev.step ?_⟩
    simp only [l47_0_v1_eq, T.rows_len]
    exact Ev.no (lt_no i _ (by omega)) (Ev.of fun m k n' => by rw [q47_2_eq])
  | succ d ih =>
    intro i hi hd n
    have hlt : i < l.length := by omega
    by_cases hn : n ≤ most
    · obtain ⟨v, hv⟩ := H l[i] (List.getElem_mem hlt) n
      obtain ⟨w, hw⟩ := ih (i + 1) (by omega) (by omega) v
      refine ⟨w, Ev.step ?_⟩
      simp only [l47_0_v1_eq, T.rows_len]
      refine Ev.yes (lt_yes i _ hlt) (Ev.yes (decide_eq_true hn) ?_)
      simp only [q47_0_eq, tn, T.rows_at l i hlt, T.row_eq, T.rows_len]
      refine Ev.yes (in_range i _ hlt) (v_oI hv ?_)
      simp only [q47_1_eq, wrap_up i (show i < 9223372036854775807 by omega)]
      exact hw
    · refine ⟨n, Ev.step ?_⟩
      simp only [l47_0_v1_eq, T.rows_len]
      exact Ev.yes (lt_yes i _ hlt) (Ev.no (decide_eq_false hn) (Ev.of fun m k n' => by rw [q47_2_eq]))
mutual
theorem C_tsize : ∀ (t : T), LenT t → ∀ n most : Int, SomeI 47 [tV t, V.one (iX n), V.one (iX most)]
  | .mk k l, h => fun n most => by
    rw [LenT] at h
    obtain ⟨hks, hkk⟩ := h
    have H := C_tsizes l hkk
    obtain ⟨v, hv⟩ := L_tsize k l hks most (fun x hx n => H x hx n most) _ 0 (Nat.zero_le _) rfl (IntKind.wrap .i64 (n + 1))
    refine ⟨v, call47_v1 _ _ _ _ ?_⟩
    simp only [e47_v1_eq]
    exact Ev.diag hv
theorem C_tsizes : ∀ (ks : List T), LenTs ks → ∀ x ∈ ks, ∀ n most : Int, SomeI 47 [tV x, V.one (iX n), V.one (iX most)]
  | [], _, x, hx => by cases hx
  | z :: r, hs, x, hx => by
    rw [LenTs] at hs
    rcases List.mem_cons.1 hx with h | h
    · rw [h]; exact C_tsize z hs.1
    · exact C_tsizes r hs.2 x h
end
abbrev SomeB (f : FuncId) (args : List V) : Prop := ∃ v : Bool, Cal f args [] (RV (V.one (bX v)))
theorem C_fewM (most : Int) (hmost : most ≤ 1000000) (es : List E) (hl : es.length ≤ 1000) (H : ∀ x ∈ es, LenE x) : ∃ v : Bool, Cal 13 [V.one (iX most), V.one (X.d (D.list 8 (E.rows es)))] [] (RV (V.one (bX v))) ∧ (v = true → Int.ofNat (wEs es) ≤ most) := by
  have key : ∀ (d i : Nat), i ≤ es.length → es.length - i = d → ∀ n : Int, ∃ v : Bool, Ev (fun m k n' => l13_0 m (Ak k) n' most (E.rows es) n (Int.ofNat i)) (RV (V.one (bX v))) ∧
      (0 ≤ n → n ≤ 1000000 + 562949953421312 * Int.ofNat i → v = true → n + Int.ofNat (wEs (es.drop i)) ≤ most) := by
    intro d
    induction d with
    | zero =>
      intro i hi hd n
      refine ⟨decide (n ≤ most), Ev.step ?_, fun _ _ h => ?_⟩
      · simp only [l13_0_eq, E.rows_len]
        exact Ev.no (lt_no i _ (by omega)) (Ev.of fun m k n' => by rw [q13_2_eq])
      · rw [List.drop_eq_nil_of_le (by omega), wEs_nil]
        have := of_decide_eq_true h
        simpa using this
    | succ d ih =>
      intro i hi hd n
      have hlt : i < es.length := by omega
      obtain ⟨v, hv, hm⟩ := C_size es[i] (H _ (List.getElem_mem hlt)) n most
      obtain ⟨w, hw, hmw⟩ := ih (i + 1) (by omega) (by omega) v
      refine ⟨w, Ev.step ?_, fun h0 h1 h2 => ?_⟩
      · simp only [l13_0_eq, E.rows_len]
        refine Ev.yes (lt_yes i _ hlt) ?_
        simp only [q13_0_eq, tn, E.rows_at es i hlt, E.row_eq, E.rows_len]
        refine Ev.yes (in_range i _ hlt) (v_oI hv ?_)
        simp only [q13_1_eq, wrap_up i (show i < 9223372036854775807 by omega)]
        exact hw
      · simp only [Int.ofNat_eq_natCast] at *
        obtain ⟨a1, a2, a3⟩ := hm h0 (by omega) (by omega)
        have := hmw (by omega) (by omega) h2
        rw [List.drop_eq_getElem_cons hlt, wEs_cons]
        have := a3 (by omega)
        simp only [Int.ofNat_eq_natCast] at *
        omega
  obtain ⟨v, hv, hm⟩ := key _ 0 (Nat.zero_le _) rfl 0
  refine ⟨v, call13 _ _ ?_, fun h => ?_⟩
  · simp only [e13_eq]
    exact Ev.diag hv
  · have := hm (Int.le_refl _) (by simp only [Int.ofNat_eq_natCast]; omega) h
    rw [List.drop_zero] at this
    omega
theorem C_few (most : Int) (hm : most ≤ 1000000) (es : List E) (hl : es.length ≤ 1000) (H : ∀ x ∈ es, LenE x) : SomeB 13 [V.one (iX most), V.one (X.d (D.list 8 (E.rows es)))] := by
  obtain ⟨v, h, _⟩ := C_fewM most hm es hl H
  exact ⟨v, h⟩
theorem C_fewT (most : Int) (ts : List T) (hl : ts.length ≤ 1000000) (H : ∀ x ∈ ts, LenT x) : SomeB 22 [V.one (iX most), V.one (X.d (D.list 2 (T.rows ts)))] := by
  have key : ∀ (d i : Nat), i ≤ ts.length → ts.length - i = d → ∀ n : Int, ∃ v : Bool, Ev (fun m k n' => l22_0_v1 m (Ak k) n' most (T.rows ts) n (Int.ofNat i)) (RV (V.one (bX v))) := by
    intro d
    induction d with
    | zero =>
      intro i hi hd n
      refine ⟨decide (n ≤ most), Ev.step ?_⟩
      simp only [l22_0_v1_eq, T.rows_len]
      exact Ev.no (lt_no i _ (by omega)) (Ev.of fun m k n' => by rw [q22_2_eq])
    | succ d ih =>
      intro i hi hd n
      have hlt : i < ts.length := by omega
      obtain ⟨v, hv⟩ := C_tsize ts[i] (H _ (List.getElem_mem hlt)) n most
      obtain ⟨w, hw⟩ := ih (i + 1) (by omega) (by omega) v
      refine ⟨w, Ev.step ?_⟩
      simp only [l22_0_v1_eq, T.rows_len]
      refine Ev.yes (lt_yes i _ hlt) ?_
      simp only [q22_0_v1_eq, tn, T.rows_at ts i hlt, T.row_eq, T.rows_len]
      refine Ev.yes (in_range i _ hlt) (v_oI hv ?_)
      simp only [q22_1_v1_eq, wrap_up i (show i < 9223372036854775807 by omega)]
      exact hw
  obtain ⟨v, hv⟩ := key _ 0 (Nat.zero_le _) rfl 0
  refine ⟨v, call22_v1 _ _ ?_⟩
  simp only [e22_v1_eq]
  exact Ev.diag hv
theorem C_fewN (most : Int) : SomeB 22 [V.one (iX most), V.one (X.nilL 2)] := by
  refine ⟨decide ((0 : Int) ≤ most), call22 _ ?_⟩
  simp only [e22_eq]
  have : Ev (fun m k n' => l22_0 m (Ak k) n' most 0 0) (RV (V.one (bX (decide ((0 : Int) ≤ most))))) := by
    refine Ev.step ?_
    simp only [l22_0_eq]
    exact Ev.no rfl (Ev.of fun m k n' => by rw [q22_2_eq])
  exact Ev.diag this

theorem cy {α : Type} {c : Bool} {a b o : α} (h : c = true) (h2 : a = o) : (bif c then a else b) = o := by rw [h]; exact h2
theorem cn {α : Type} {c : Bool} {a b o : α} (h : c = false) (h2 : b = o) : (bif c then a else b) = o := by rw [h]; exact h2
theorem drows (s : Nat) (r : List (List D)) : D.rows (D.list s r) = r := rfl
theorem room (n c : Nat) (hn : n ≤ 1000000) (hc : c ≤ 1000) : (true && true && true && Nat.ble ((n + 1) * c) 140737488355328) = true := by
  have := roomy n c hn hc
  rw [this]
  rfl
section
variable (p : Pg) (x0 : Int)
theorem L_fpars (Γ : Bool → SemL) (m0 n0 : Nat) (o : Option Out) (es : List E) (i : Nat) (hi : i < p.funs.length) (hl : p.funs[i].params.length ≤ 100) : ∀ (d j : Nat) (ts : List T), j ≤ p.funs[i].params.length → p.funs[i].params.length - j = d → ts.length + d ≤ 1000000 →
    q7_8 Γ m0 n0 x0 (E.rows es) (T.rows (ts ++ (p.funs[i].params.drop j).map (·.typ))) (Int.ofNat i) (Fld.rows p.inputs) (Fnc.rows p.funs) p.query.k p.query.n (bx p.query.name) (strs p.query.names) (ints p.query.odds) (E.rows p.query.kids) p.query.line p.query.col = o →
    ∀ m, d < m → l7_2 m Γ m0 n0 x0 (E.rows es) (T.rows ts) (Int.ofNat i) (Int.ofNat j) (Fld.rows p.inputs) (Fnc.rows p.funs) p.query.k p.query.n (bx p.query.name) (strs p.query.names) (ints p.query.odds) (E.rows p.query.kids) p.query.line p.query.col = o := by
  intro d
  induction d with
  | zero =>
    intro j ts hj hd ht h m hm
    obtain ⟨m, rfl⟩ : ∃ m', m = m' + 1 := ⟨m - 1, by omega⟩
    rw [List.drop_eq_nil_of_le (by omega), List.map_nil, List.append_nil] at h
    rw [l7_2_eq]
    simp only [tn, Fnc.rows_len, Fnc.rows_at p.funs i hi, Fnc.row_eq, List.getD_cons_succ, List.getD_cons_zero, drows, Fld.rows_len]
    exact cy (in_range i _ hi) (cy rfl (cn (lt_no j _ (by omega)) h))
  | succ d ih =>
    intro j ts hj hd ht h m hm
    obtain ⟨m, rfl⟩ : ∃ m', m = m' + 1 := ⟨m - 1, by omega⟩
    have hlt : j < p.funs[i].params.length := by omega
    rw [l7_2_eq]
    simp only [tn, Fnc.rows_len, Fnc.rows_at p.funs i hi, Fnc.row_eq, List.getD_cons_succ, List.getD_cons_zero, drows, Fld.rows_len]
    refine cy (in_range i _ hi) (cy rfl (cy (lt_yes j _ hlt) ?_))
    rw [q7_6_eq]
    simp only [tn, Fnc.rows_len, Fnc.rows_at p.funs i hi, Fnc.row_eq, List.getD_cons_succ, List.getD_cons_zero, drows, Fld.rows_len, Fld.rows_at p.funs[i].params j hlt, Fld.row_eq]
    refine cy (in_range i _ hi) (cy rfl (cy (in_range j _ hlt) (cy (by rw [T.rows_len]; exact room ts.length 33 (by omega) (by omega)) ?_)))
    rw [q7_7_eq, wrap_up j (show j < 9223372036854775807 by omega), ← T.rows_app]
    refine ih (j + 1) (ts ++ [p.funs[i].params[j].typ]) (by omega) (by omega) (by rw [List.length_append, List.length_singleton]; omega) ?_ m (by omega)
    rw [List.drop_eq_getElem_cons hlt, List.map_cons] at h
    rw [List.append_assoc]
    exact h
variable (hx0 : x0 ≤ 1000000) (h : LenP p) (hi : p.inputs.length ≤ 100) (hf : p.funs.length ≤ 100)
include hx0 h hf
theorem few_funs : ∀ (d i : Nat), i ≤ p.funs.length → p.funs.length - i = d → ∀ (es : List E) (ts : List T), es.length ≤ 1 + i → ts.length ≤ 200 + 200 * i → (∀ x ∈ es, LenE x) → (∀ x ∈ ts, LenT x) →
    ∃ v : Bool, Ev (fun m k n => l7_1_v1 m (Ak k) n x0 (E.rows es) (T.rows ts) (Int.ofNat i) (Fld.rows p.inputs) (Fnc.rows p.funs) p.query.k p.query.n (bx p.query.name) (strs p.query.names) (ints p.query.odds) (E.rows p.query.kids) p.query.line p.query.col) (RV (V.one (bX v))) := by
  intro d
  induction d with
  | zero =>
    intro i hi hd es ts he ht hee htt
    obtain ⟨b, hb⟩ := C_few x0 hx0 es (by omega) hee
    obtain ⟨c, hc⟩ := C_fewT x0 ts (by omega) htt
    refine ⟨b && c, Ev.step ?_⟩
    simp only [l7_1_v1_eq, Fnc.rows_len]
    refine Ev.no (lt_no i _ (by omega)) ?_
    simp only [q7_9_v1_eq]
    refine v_oB hb ?_
    cases b with
    | false => exact Ev.no rfl (Ev.ret _)
    | true => exact Ev.yes rfl (v_oB hc (Ev.ret _))
  | succ d ih =>
    intro i hi hd es ts he ht hee htt
    have hlt : i < p.funs.length := by omega
    have hx := h.fn _ (List.getElem_mem hlt)
    by_cases hp : 100 < p.funs[i].params.length
    · refine ⟨false, Ev.step ?_⟩
      simp only [l7_1_v1_eq, Fnc.rows_len]
      refine Ev.yes (lt_yes i _ hlt) ?_
      simp only [q7_4_v1_eq, tn, Fnc.rows_len, Fnc.rows_at p.funs i hlt, Fnc.row_eq, List.getD_cons_succ, List.getD_cons_zero, drows, Fld.rows_len]
      exact Ev.yes (in_range i _ hlt) (Ev.yes rfl (Ev.yes (decide_eq_true (by show (100 : Int) < Int.ofNat _; simp only [Int.ofNat_eq_natCast]; omega)) (Ev.ret _)))
    obtain ⟨v, K, hK⟩ := ih (i + 1) (by omega) (by omega) (es ++ [p.funs[i].body]) ((ts ++ [p.funs[i].res]) ++ (p.funs[i].params.drop 0).map (·.typ)) (by rw [List.length_append, List.length_singleton]; omega)
      (by rw [List.drop_zero, List.length_append, List.length_append, List.length_singleton, List.length_map]; omega)
      (fun x hxm => by
        rcases List.mem_append.1 hxm with hxm | hxm
        · exact hee x hxm
        · rw [List.mem_singleton.1 hxm]; exact hx.body)
      (fun x hxm => by
        rcases List.mem_append.1 hxm with hxm | hxm
        · rcases List.mem_append.1 hxm with hxm | hxm
          · exact htt x hxm
          · rw [List.mem_singleton.1 hxm]; exact hx.res
        · rw [List.drop_zero] at hxm
          obtain ⟨y, hy, rfl⟩ := List.mem_map.1 hxm
          exact hx.typ y hy)
    refine ⟨v, Ev.step ?_⟩
    simp only [l7_1_v1_eq, Fnc.rows_len]
    refine Ev.yes (lt_yes i _ hlt) ?_
    simp only [q7_4_v1_eq, tn, Fnc.rows_len, Fnc.rows_at p.funs i hlt, Fnc.row_eq, List.getD_cons_succ, List.getD_cons_zero, drows, Fld.rows_len]
    refine Ev.yes (in_range i _ hlt) (Ev.yes rfl (Ev.no (decide_eq_false (by show ¬ (100 : Int) < Int.ofNat _; simp only [Int.ofNat_eq_natCast]; omega)) ?_))
    simp only [q7_5_v1_eq, tn, Fnc.rows_len, Fnc.rows_at p.funs i hlt, Fnc.row_eq, List.getD_cons_succ, List.getD_cons_zero, drows, Fld.rows_len, E.rows_len, T.rows_len]
    refine Ev.yes (in_range i _ hlt) (Ev.yes (room es.length 121 (by omega) (by omega)) (Ev.yes (in_range i _ hlt) (Ev.yes (room ts.length 33 (by omega) (by omega)) ?_)))
    simp only [← T.rows_app, ← E.rows_app]
    refine ⟨K + 200, fun m k n h1 h2 h3 => L_fpars p x0 (Ak k) m n _ _ i hlt (by omega) _ 0 _ (Nat.zero_le _) rfl (by rw [List.length_append, List.length_singleton]; omega) ?_ m (by omega)⟩
    rw [q7_8_eq, wrap_up i (show i < 9223372036854775807 by omega)]
    exact hK m k n (by omega) (by omega) (by omega)
theorem few_funs0 (es : List E) (he : es.length ≤ 1) (hee : ∀ x ∈ es, LenE x) :
    ∃ v : Bool, Ev (fun m k n => l7_1 m (Ak k) n x0 (E.rows es) (Int.ofNat 0) (Fld.rows p.inputs) (Fnc.rows p.funs) p.query.k p.query.n (bx p.query.name) (strs p.query.names) (ints p.query.odds) (E.rows p.query.kids) p.query.line p.query.col) (RV (V.one (bX v))) := by
  by_cases hlt : 0 < p.funs.length
  rotate_left
  · obtain ⟨b, hb⟩ := C_few x0 hx0 es (by omega) hee
    obtain ⟨c, hc⟩ := C_fewN x0
    refine ⟨b && c, Ev.step ?_⟩
    simp only [l7_1_eq, Fnc.rows_len]
    refine Ev.no (lt_no 0 _ (by omega)) ?_
    simp only [q7_9_eq]
    refine v_oB hb ?_
    cases b with
    | false => exact Ev.no rfl (Ev.ret _)
    | true => exact Ev.yes rfl (v_oB hc (Ev.ret _))
  · have hx := h.fn _ (List.getElem_mem hlt)
    by_cases hp : 100 < p.funs[0].params.length
    · refine ⟨false, Ev.step ?_⟩
      simp only [l7_1_eq, Fnc.rows_len]
      refine Ev.yes (lt_yes 0 _ hlt) ?_
      simp only [q7_4_eq, tn, Fnc.rows_len, Fnc.rows_at p.funs 0 hlt, Fnc.row_eq, List.getD_cons_succ, List.getD_cons_zero, drows, Fld.rows_len]
      exact Ev.yes (in_range 0 _ hlt) (Ev.yes rfl (Ev.yes (decide_eq_true (by show (100 : Int) < Int.ofNat _; simp only [Int.ofNat_eq_natCast]; omega)) (Ev.ret _)))
    obtain ⟨v, K, hK⟩ := few_funs p x0 hx0 h hf _ 1 (by omega) rfl (es ++ [p.funs[0].body]) ([p.funs[0].res] ++ (p.funs[0].params.drop 0).map (·.typ)) (by rw [List.length_append, List.length_singleton]; omega)
      (by rw [List.drop_zero, List.length_append, List.length_singleton, List.length_map]; omega)
      (fun x hxm => by
        rcases List.mem_append.1 hxm with hxm | hxm
        · exact hee x hxm
        · rw [List.mem_singleton.1 hxm]; exact hx.body)
      (fun x hxm => by
        rcases List.mem_append.1 hxm with hxm | hxm
        · rw [List.mem_singleton.1 hxm]; exact hx.res
        · rw [List.drop_zero] at hxm
          obtain ⟨y, hy, rfl⟩ := List.mem_map.1 hxm
          exact hx.typ y hy)
    refine ⟨v, Ev.step ?_⟩
    simp only [l7_1_eq, Fnc.rows_len]
    refine Ev.yes (lt_yes 0 _ hlt) ?_
    simp only [q7_4_eq, tn, Fnc.rows_len, Fnc.rows_at p.funs 0 hlt, Fnc.row_eq, List.getD_cons_succ, List.getD_cons_zero, drows, Fld.rows_len]
    refine Ev.yes (in_range 0 _ hlt) (Ev.yes rfl (Ev.no (decide_eq_false (by show ¬ (100 : Int) < Int.ofNat _; simp only [Int.ofNat_eq_natCast]; omega)) ?_))
    simp only [q7_5_eq, tn, Fnc.rows_len, Fnc.rows_at p.funs 0 hlt, Fnc.row_eq, List.getD_cons_succ, List.getD_cons_zero, drows, Fld.rows_len, E.rows_len]
    refine Ev.yes (in_range 0 _ hlt) (Ev.yes (room es.length 121 (by omega) (by omega)) (Ev.yes (in_range 0 _ hlt) ?_))
    simp only [← T.rows_one, ← E.rows_app]
    refine ⟨K + 200, fun m k n h1 h2 h3 => L_fpars p x0 (Ak k) m n _ _ 0 hlt (by omega) _ 0 _ (Nat.zero_le _) rfl (by rw [List.length_singleton]; omega) ?_ m (by omega)⟩
    rw [q7_8_eq, wrap_up 0 (by decide)]
    exact hK m k n (by omega) (by omega) (by omega)
include hi
theorem few_ins (es : List E) (he : es.length ≤ 1) (hee : ∀ x ∈ es, LenE x) : ∀ (d i : Nat), i ≤ p.inputs.length → p.inputs.length - i = d → ∀ (ts : List T), ts.length ≤ i → (∀ x ∈ ts, LenT x) →
    ∃ v : Bool, Ev (fun m k n => l7_0_v1 m (Ak k) n x0 (E.rows es) (T.rows ts) (Int.ofNat i) (Fld.rows p.inputs) (Fnc.rows p.funs) p.query.k p.query.n (bx p.query.name) (strs p.query.names) (ints p.query.odds) (E.rows p.query.kids) p.query.line p.query.col) (RV (V.one (bX v))) := by
  intro d
  induction d with
  | zero =>
    intro i hi' hd ts ht htt
    obtain ⟨v, hv⟩ := few_funs p x0 hx0 h hf _ 0 (Nat.zero_le _) rfl es ts (by omega) (by omega) hee htt
    refine ⟨v, Ev.step ?_⟩
    simp only [l7_0_v1_eq, Fld.rows_len]
    refine Ev.no (lt_no i _ (by omega)) ?_
    simp only [q7_3_v1_eq]
    exact Ev.diag hv
  | succ d ih =>
    intro i hi' hd ts ht htt
    have hlt : i < p.inputs.length := by omega
    obtain ⟨v, hv⟩ := ih (i + 1) (by omega) (by omega) (ts ++ [p.inputs[i].typ]) (by rw [List.length_append, List.length_singleton]; omega) (fun x hxm => by
        rcases List.mem_append.1 hxm with hxm | hxm
        · exact htt x hxm
        · rw [List.mem_singleton.1 hxm]; exact h.inp _ (List.getElem_mem hlt))
    refine ⟨v, Ev.step ?_⟩
    simp only [l7_0_v1_eq, Fld.rows_len]
    refine Ev.yes (lt_yes i _ hlt) ?_
    simp only [q7_1_v1_eq, tn, Fld.rows_len, Fld.rows_at p.inputs i hlt, Fld.row_eq, List.getD_cons_succ, List.getD_cons_zero, T.rows_len]
    refine Ev.yes (in_range i _ hlt) (Ev.yes (room ts.length 33 (by omega) (by omega)) ?_)
    simp only [q7_2_eq, ← T.rows_app, wrap_up i (show i < 9223372036854775807 by omega)]
    exact hv
theorem few_ins0 (es : List E) (he : es.length ≤ 1) (hee : ∀ x ∈ es, LenE x) :
    ∃ v : Bool, Ev (fun m k n => l7_0 m (Ak k) n x0 (E.rows es) (Int.ofNat 0) (Fld.rows p.inputs) (Fnc.rows p.funs) p.query.k p.query.n (bx p.query.name) (strs p.query.names) (ints p.query.odds) (E.rows p.query.kids) p.query.line p.query.col) (RV (V.one (bX v))) := by
  by_cases hlt : 0 < p.inputs.length
  · obtain ⟨v, hv⟩ := few_ins p x0 hx0 h hi hf es he hee _ 1 (by omega) rfl [p.inputs[0].typ] (Nat.le_refl _) (fun x hxm => by rw [List.mem_singleton.1 hxm]; exact h.inp _ (List.getElem_mem hlt))
    refine ⟨v, Ev.step ?_⟩
    simp only [l7_0_eq, Fld.rows_len]
    refine Ev.yes (lt_yes 0 _ hlt) ?_
    simp only [q7_1_eq, tn, Fld.rows_len, Fld.rows_at p.inputs 0 hlt, Fld.row_eq, List.getD_cons_succ, List.getD_cons_zero]
    refine Ev.yes (in_range 0 _ hlt) ?_
    simp only [q7_2_eq, ← T.rows_one, wrap_up 0 (by decide)]
    exact hv
  · obtain ⟨v, hv⟩ := few_funs0 p x0 hx0 h hf es he hee
    refine ⟨v, Ev.step ?_⟩
    simp only [l7_0_eq, Fld.rows_len]
    refine Ev.no (lt_no 0 _ (by omega)) ?_
    simp only [q7_3_eq]
    exact Ev.diag hv
end
theorem C_fewP (x0 : Int) (hx0 : x0 ≤ 1000000) (p : Pg) (h : LenP p) : SomeB 7 [V.one (iX x0), pV p] := by
  by_cases hi : 100 < p.inputs.length
  · refine ⟨false, call7 _ _ _ _ _ _ _ _ _ _ _ ?_⟩
    simp only [e7_eq, Fld.rows_len, Fnc.rows_len]
    exact Ev.yes (decide_eq_true (by show (100 : Int) < Int.ofNat _; simp only [Int.ofNat_eq_natCast]; omega)) (Ev.ret _)
  by_cases hf : 100 < p.funs.length
  · refine ⟨false, call7 _ _ _ _ _ _ _ _ _ _ _ ?_⟩
    simp only [e7_eq, Fld.rows_len, Fnc.rows_len]
    exact Ev.no (decide_eq_false (by show ¬ (100 : Int) < Int.ofNat _; simp only [Int.ofNat_eq_natCast]; omega)) (Ev.yes (decide_eq_true (by show (100 : Int) < Int.ofNat _; simp only [Int.ofNat_eq_natCast]; omega)) (Ev.ret _))
  obtain ⟨v, hv⟩ := few_ins0 p x0 hx0 h (by omega) (by omega) [p.query] (Nat.le_refl _) (fun x hx => by rw [List.mem_singleton.1 hx]; exact h.query)
  refine ⟨v, call7 _ _ _ _ _ _ _ _ _ _ _ ?_⟩
  simp only [e7_eq, Fld.rows_len, Fnc.rows_len]
  refine Ev.no (decide_eq_false (by show ¬ (100 : Int) < Int.ofNat _; simp only [Int.ofNat_eq_natCast]; omega)) (Ev.no (decide_eq_false (by show ¬ (100 : Int) < Int.ofNat _; simp only [Int.ofNat_eq_natCast]; omega)) ?_)
  simp only [q7_0_eq, ← E.rows_one]
  exact Ev.diag hv
theorem C_awake : Cal 8 [] [] (YB true) := ⟨100, fun m k n _ hk _ => by
  obtain ⟨j, rfl⟩ : ∃ j, k = j + 100 := ⟨k - 100, by omega⟩
  exact awake_all j⟩
theorem lawRights (p : Pg) (h : LenP p) : Cal 3 [pV p] [] (YB true) := by
  refine call3 _ _ _ _ _ _ _ _ _ _ ?_
  simp only [e3_eq]
  obtain ⟨b, hb⟩ := C_fewP 2000 (by decide) p h
  refine v_oB hb ?_
  cases b with
  | false => exact Ev.yes rfl (v_oB C_awake (Ev.ret _))
  | true =>
    refine Ev.no rfl ?_
    simp only [q3_0_eq]
    refine v_oB (C_Right p h) (v_oB (C_rRight p h) (Ev.yes (beq_self_eq_true _) ?_))
    refine v_oB (C_RightExpr p.query h.query) (v_oB (C_rRightExpr p.query h.query) (Ev.yes (beq_self_eq_true _) ?_))
    exact v_oB C_awake (Ev.ret _)
end Go.Proofs.YtaphnbaiamnfpaaDoor.Ps
