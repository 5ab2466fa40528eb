/- Trees as data of the evaluator; small equations that open what a call hands back. -/
import Derived.Test.YtkpdofiflhjahaaDoorPw3
import Derived.Test.YtkpdofiflhjahaaDoorVA
namespace Go.Proofs.YtkpdofiflhjahaaDoor.Ps
set_option linter.unusedVariables false
open Go Go.RowKit
mutual
def T.row : T → List D
  | .mk k l => [.int .i64 k, .list 2 (T.rows l)]
def T.rows : List T → List (List D)
  | [] => []
  | t :: r => t.row :: T.rows r
end
mutual
def W.row : W → List D
  | .mk k n l => [.int .i64 k, .int .i64 n, .list 3 (W.rows l)]
def W.rows : List W → List (List D)
  | [] => []
  | t :: r => t.row :: W.rows r
end
instance : Inhabited T := ⟨.mk 0 []⟩
instance : Inhabited W := ⟨.mk 0 0 []⟩
theorem T.row_eq (t : T) : t.row = [.int .i64 t.k, .list 2 (T.rows t.l)] := by cases t; unfold T.row; rfl
theorem W.row_eq (t : W) : t.row = [.int .i64 t.k, .int .i64 t.n, .list 3 (W.rows t.l)] := by cases t; unfold W.row; rfl
theorem T.rows_len : ∀ l : List T, (T.rows l).length = l.length
  | [] => by unfold T.rows; rfl
  | t :: r => by unfold T.rows; rw [List.length_cons, List.length_cons, T.rows_len r]
theorem W.rows_len : ∀ l : List W, (W.rows l).length = l.length
  | [] => by unfold W.rows; rfl
  | t :: r => by unfold W.rows; rw [List.length_cons, List.length_cons, W.rows_len r]
theorem T.rows_at : ∀ (l : List T) (i : Nat), i < l.length → (T.rows l).getD i [] = [.int .i64 (l.getD i default).k, .list 2 (T.rows (l.getD i default).l)]
  | [], i, h => absurd h (by simp)
  | t :: r, 0, h => by
    have e : T.rows (t :: r) = t.row :: T.rows r := by rw [T.rows]
    rw [e]
    exact t.row_eq
  | t :: r, i + 1, h => by
    have e : T.rows (t :: r) = t.row :: T.rows r := by rw [T.rows]
    rw [e]
    have := T.rows_at r i (by simpa using h)
    simpa using this
theorem W.rows_at : ∀ (l : List W) (i : Nat), i < l.length → (W.rows l).getD i [] = [.int .i64 (l.getD i default).k, .int .i64 (l.getD i default).n, .list 3 (W.rows (l.getD i default).l)]
  | [], i, h => absurd h (by simp)
  | t :: r, 0, h => by
    have e : W.rows (t :: r) = t.row :: W.rows r := by rw [W.rows]
    rw [e]
    exact t.row_eq
  | t :: r, i + 1, h => by
    have e : W.rows (t :: r) = t.row :: W.rows r := by rw [W.rows]
    rw [e]
    have := W.rows_at r i (by simpa using h)
    simpa using this
theorem T.rows_app : ∀ l r : List T, T.rows (l ++ r) = T.rows l ++ T.rows r
  | [], r => by unfold T.rows; rfl
  | t :: l, r => by rw [List.cons_append, T.rows, T.rows, T.rows_app l r, List.cons_append]
theorem W.rows_app : ∀ l r : List W, W.rows (l ++ r) = W.rows l ++ W.rows r
  | [], r => by unfold W.rows; rfl
  | t :: l, r => by rw [List.cons_append, W.rows, W.rows, W.rows_app l r, List.cons_append]
theorem T.rows_one (t : T) : T.rows [t] = [[.int .i64 t.k, .list 2 (T.rows t.l)]] := by rw [T.rows, T.rows, T.row_eq]
theorem W.rows_one (t : W) : W.rows [t] = [[.int .i64 t.k, .int .i64 t.n, .list 3 (W.rows t.l)]] := by rw [W.rows, W.rows, W.row_eq]
theorem T.rows_nil : T.rows [] = [] := by rw [T.rows]
theorem W.rows_nil : W.rows [] = [] := by rw [W.rows]
/-- A type, a value, handed over. -/
abbrev T.v (t : T) : V := .agg [.d (.int .i64 t.k), .d (.list 2 (T.rows t.l))]
abbrev W.v (t : W) : V := .agg [.d (.int .i64 t.k), .d (.int .i64 t.n), .d (.list 3 (W.rows t.l))]
abbrev iV (n : Int) : V := V.one (X.d (D.int IntKind.i64 n))
abbrev bV (b : Bool) : V := V.one (X.d (D.bool b))
abbrev sV (s : ByteArray) : V := V.one (X.d (D.str s))

theorem ok_R (v : V) : Out.ok (R v) = true := rfl
theorem val_R (v : V) : Out.val (R v) = v := rfl
theorem m_R (v : V) : (Nat.beq (Out.m (R v)) 0 && true) = true := rfl
theorem isTup2 (a b : V) : V.isTup 2 (.tup [a, b]) = true := rfl
theorem isTup3 (a b c : V) : V.isTup 3 (.tup [a, b, c]) = true := rfl
theorem isAgg2 (a b : X) : V.isAgg 2 (.agg [a, b]) = true := rfl
theorem isAgg3 (a b c : X) : V.isAgg 3 (.agg [a, b, c]) = true := rfl
theorem isOne1 (x : X) : V.isOne (.one x) = true := rfl
theorem comp0 (a : V) (l : List V) : V.comp (.tup (a :: l)) 0 = a := rfl
theorem comp1 (a b : V) (l : List V) : V.comp (.tup (a :: b :: l)) 1 = b := rfl
theorem comp2 (a b c : V) (l : List V) : V.comp (.tup (a :: b :: c :: l)) 2 = c := rfl
theorem cell1 (x : X) (i : Nat) : X.cell (.one x) i = x := rfl
theorem cella0 (a : X) (l : List X) : X.cell (.agg (a :: l)) 0 = a := rfl
theorem cella1 (a b : X) (l : List X) : X.cell (.agg (a :: b :: l)) 1 = b := rfl
theorem cella2 (a b c : X) (l : List X) : X.cell (.agg (a :: b :: c :: l)) 2 = c := rfl
theorem isD_d (d : D) : X.isD (.d d) = true := rfl
theorem dd_d (d : D) : X.dd (.d d) = d := rfl
theorem isInt_i (n : Int) : D.isInt .i64 (.int .i64 n) = true := rfl
theorem isInt_u8 (n : Int) : D.isInt .u8 (.int .u8 n) = true := rfl
theorem isInt_u64 (n : Int) : D.isInt .u64 (.int .u64 n) = true := rfl
theorem num_i (k : IntKind) (n : Int) : D.num (.int k n) = n := rfl
theorem isBool_b (b : Bool) : D.isBool (.bool b) = true := rfl
theorem bit_b (b : Bool) : D.bit (.bool b) = b := rfl
theorem isStr_s (s : ByteArray) : D.isStr (.str s) = true := rfl
theorem bytes_s (s : ByteArray) : D.bytes (.str s) = s := rfl
theorem isList_2 (r : List (List D)) : D.isList 2 (.list 2 r) = true := rfl
theorem isList_3 (r : List (List D)) : D.isList 3 (.list 3 r) = true := rfl
theorem rows_l (k : Nat) (r : List (List D)) : D.rows (.list k r) = r := rfl
theorem getD0 {α : Type} (a : α) (l : List α) (z : α) : List.getD (a :: l) 0 z = a := rfl
theorem getD1 {α : Type} (a b : α) (l : List α) (z : α) : List.getD (a :: b :: l) 1 z = b := rfl
theorem getD2 {α : Type} (a b c : α) (l : List α) (z : α) : List.getD (a :: b :: c :: l) 2 z = c := rfl
theorem nb_0 : Nat.beq 0 0 = true := rfl
theorem len_1 {α : Type} (a : α) : Nat.beq (List.length [a]) 1 = true := rfl
theorem len_2 {α : Type} (a b : α) : Nat.beq (List.length [a, b]) 2 = true := rfl
theorem len_3 {α : Type} (a b c : α) : Nat.beq (List.length [a, b, c]) 3 = true := rfl
theorem tn (n : Nat) : Int.toNat (Int.ofNat n) = n := rfl
theorem in_range (i n : Nat) (h : i < n) : (decide ((0 : Int) ≤ Int.ofNat i) && decide (Int.ofNat i < Int.ofNat n)) = true := by
  rw [Bool.and_eq_true]
  exact ⟨decide_eq_true (Int.natCast_nonneg i), decide_eq_true (Int.ofNat_lt.2 h)⟩
theorem lt_yes (i n : Nat) (h : i < n) : decide (Int.ofNat i < Int.ofNat n) = true := decide_eq_true (Int.ofNat_lt.2 h)
theorem lt_no (i n : Nat) (h : n ≤ i) : decide (Int.ofNat i < Int.ofNat n) = false := decide_eq_false (fun k => by have := Int.ofNat_lt.1 k; omega)
theorem wrap_in (n : Int) (h : -9223372036854775808 ≤ n) (h' : n ≤ 9223372036854775807) : IntKind.wrap .i64 n = n := by
  have e1 : IntKind.bits .i64 = 64 := rfl
  have e2 : IntKind.signed .i64 = true := rfl
  have e3 : (2 ^ 64 : Int) = 18446744073709551616 := rfl
  have e4 : (2 ^ 63 : Int) = 9223372036854775808 := rfl
  unfold IntKind.wrap
  simp only [e1, e2, e3, e4, Bool.true_and, decide_eq_true_eq, ge_iff_le]
  split <;> omega
theorem wrap_up (i : Nat) (h : i < 9223372036854775807) : IntKind.wrap .i64 (Int.ofNat i + 1) = Int.ofNat (i + 1) := wrap_in _ (by have := Int.natCast_nonneg i; simp only [Int.ofNat_eq_natCast]; omega) (by simp only [Int.ofNat_eq_natCast]; omega)
end Go.Proofs.YtkpdofiflhjahaaDoor.Ps
