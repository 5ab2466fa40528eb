/- The program's readers: the steps that read an expression, a field, a list; operators. -/
import Derived.Test.YtbmcafehpgimfaaSt
import Derived.Test.YtbmcafehpgimfaaPvE
namespace Go.Proofs.Ytbmcafehpgimfaa.Ps
set_option linter.unusedVariables false
set_option linter.unusedSimpArgs false
open Go Go.RowKit Px
open Lx (Tok)

def esV (l : List E) : V := V.one (X.d (D.list 8 (E.rows l)))
def osV (l : List Int) : V := V.one (X.d (D.list 1 (ints l)))
def nV (n : Int) : V := V.one (X.d (D.int IntKind.i64 n))
theorem E.rows_app (a : List E) (b : E) : E.rows (a ++ [b]) = E.rows a ++ [[D.int IntKind.i64 b.k, D.int IntKind.i64 b.n, D.str (bx b.name), D.list 1 (strs b.names), D.list 1 (ints b.odds), D.list 8 (E.rows b.kids), D.int IntKind.i64 b.line, D.int IntKind.i64 b.col]] := by
  rw [E.rows_map, E.rows_map, List.map_append, List.map_singleton, E.row_eq, E.rows_map]
theorem E.rows_len (a : List E) : (E.rows a).length = a.length := by rw [E.rows_map, List.length_map]
theorem E.rows_one (b : E) : E.rows [b] = [[D.int IntKind.i64 b.k, D.int IntKind.i64 b.n, D.str (bx b.name), D.list 1 (strs b.names), D.list 1 (ints b.odds), D.list 8 (E.rows b.kids), D.int IntKind.i64 b.line, D.int IntKind.i64 b.col]] := E.rows_app [] b
theorem E.rows_cons (b : E) (r : List E) : E.rows (b :: r) = [D.int IntKind.i64 b.k, D.int IntKind.i64 b.n, D.str (bx b.name), D.list 1 (strs b.names), D.list 1 (ints b.odds), D.list 8 (E.rows b.kids), D.int IntKind.i64 b.line, D.int IntKind.i64 b.col] :: E.rows r := by
  rw [E.rows_map, List.map_cons, E.row_eq, E.rows_map r]
theorem E.rows_nil : E.rows [] = [] := by rw [E.rows]
theorem strs_app (a : List (List UInt8)) (b : List UInt8) : strs (a ++ [b]) = strs a ++ [[D.str (bx b)]] := by unfold strs; rw [List.map_append]; rfl
theorem strs_len (a : List (List UInt8)) : (strs a).length = a.length := List.length_map ..
section
variable {α : Type} {l : List Tok} {enc : α → V}
theorem S_E {f : FuncId} {args : List V} {rows : List (List Lf × List X)} {r : Rs E} {g : E → Nat → Rs α} {K : Nat → Nat → Nat → Int → Int → ByteArray → List (List D) → List (List D) → List (List D) → Int → Int → List (List D) → Int → Option Out} {Q : Nat → Nat → Nat → D → List (List D) → Int → Option Out}
    (h : Sim l eV (fun _ k _ => Ak k false f args rows) r) (hp : PanOn Q)
    (hy : ∀ a j, r = .ok a j → Sim l enc (fun m k n => K m k n a.k a.n (bx a.name) (strs a.names) (ints a.odds) (E.rows a.kids) a.line a.col (toks l) (Int.ofNat j)) (g a j)) :
    Sim l enc (fun m k n => r_a8IISL1L1L8II_L5I (Ak k false f args rows) (K m k n) (Q m k n)) (thenR r g) := by
  cases r with
  | ok a j => exact fun hr => v_a8IISL1L1L8II_L5I (h (fun q => by cases q)) (hy a j rfl hr)
  | no j => exact fun hr => u_a8IISL1L1L8II_L5I (h (fun q => by cases q)) (Ev.of fun m k n => hp m k n _ _ _)
  | out => exact fun hr => absurd rfl hr
theorem S_F {f : FuncId} {args : List V} {rows : List (List Lf × List X)} {r : Rs Fld} {g : Fld → Nat → Rs α} {K : Nat → Nat → Nat → ByteArray → Int → List (List D) → Int → Int → List (List D) → Int → Option Out} {Q : Nat → Nat → Nat → D → List (List D) → Int → Option Out}
    (h : Sim l fV (fun _ k _ => Ak k false f args rows) r) (hp : PanOn Q)
    (hy : ∀ a j, r = .ok a j → Sim l enc (fun m k n => K m k n (bx a.name) a.typ.k (T.rows a.typ.l) a.line a.col (toks l) (Int.ofNat j)) (g a j)) :
    Sim l enc (fun m k n => r_a5SIL2II_L5I (Ak k false f args rows) (K m k n) (Q m k n)) (thenR r g) := by
  cases r with
  | ok a j => exact fun hr => v_a5SIL2II_L5I (h (fun q => by cases q)) (hy a j rfl hr)
  | no j => exact fun hr => u_a5SIL2II_L5I (h (fun q => by cases q)) (Ev.of fun m k n => hp m k n _ _ _)
  | out => exact fun hr => absurd rfl hr
theorem S_L {f : FuncId} {args : List V} {rows : List (List Lf × List X)} {r : Rs (List E)} {g : List E → Nat → Rs α} {K : Nat → Nat → Nat → List (List D) → List (List D) → Int → Option Out} {Q : Nat → Nat → Nat → D → List (List D) → Int → Option Out}
    (h : Sim l esV (fun _ k _ => Ak k false f args rows) r) (hp : PanOn Q)
    (hy : ∀ a j, r = .ok a j → Sim l enc (fun m k n => K m k n (E.rows a) (toks l) (Int.ofNat j)) (g a j)) :
    Sim l enc (fun m k n => r_oL8_L5I (Ak k false f args rows) (K m k n) (Q m k n)) (thenR r g) := by
  cases r with
  | ok a j => exact fun hr => v_oL8_L5I (h (fun q => by cases q)) (hy a j rfl hr)
  | no j => exact fun hr => u_oL8_L5I (h (fun q => by cases q)) (Ev.of fun m k n => hp m k n _ _ _)
  | out => exact fun hr => absurd rfl hr
theorem S_O {f : FuncId} {args : List V} {rows : List (List Lf × List X)} {r : Rs (List Int)} {g : List Int → Nat → Rs α} {K : Nat → Nat → Nat → List (List D) → List (List D) → Int → Option Out} {Q : Nat → Nat → Nat → D → List (List D) → Int → Option Out}
    (h : Sim l osV (fun _ k _ => Ak k false f args rows) r) (hp : PanOn Q)
    (hy : ∀ a j, r = .ok a j → Sim l enc (fun m k n => K m k n (ints a) (toks l) (Int.ofNat j)) (g a j)) :
    Sim l enc (fun m k n => r_oL1_L5I (Ak k false f args rows) (K m k n) (Q m k n)) (thenR r g) := by
  cases r with
  | ok a j => exact fun hr => v_oL1_L5I (h (fun q => by cases q)) (hy a j rfl hr)
  | no j => exact fun hr => u_oL1_L5I (h (fun q => by cases q)) (Ev.of fun m k n => hp m k n _ _ _)
  | out => exact fun hr => absurd rfl hr
theorem S_I {f : FuncId} {args : List V} {rows : List (List Lf × List X)} {r : Rs Int} {g : Int → Nat → Rs α} {K : Nat → Nat → Nat → Int → List (List D) → Int → Option Out} {Q : Nat → Nat → Nat → D → List (List D) → Int → Option Out}
    (h : Sim l nV (fun _ k _ => Ak k false f args rows) r) (hp : PanOn Q)
    (hy : ∀ a j, r = .ok a j → Sim l enc (fun m k n => K m k n a (toks l) (Int.ofNat j)) (g a j)) :
    Sim l enc (fun m k n => r_oI_L5I (Ak k false f args rows) (K m k n) (Q m k n)) (thenR r g) := by
  cases r with
  | ok a j => exact fun hr => v_oI_L5I (h (fun q => by cases q)) (hy a j rfl hr)
  | no j => exact fun hr => u_oI_L5I (h (fun q => by cases q)) (Ev.of fun m k n => hp m k n _ _ _)
  | out => exact fun hr => absurd rfl hr
/-- A new expression. -/
theorem S_begin (κ : Int) (t : Tok) {r : Rs α} {K : Nat → Nat → Nat → Int → Int → ByteArray → Int → Int → Option Out} {Q : Nat → Nat → Nat → D → Option Out}
    (h : Sim l enc (fun m k n => K m k n κ 0 (bx []) t.line t.col) r) :
    Sim l enc (fun m k n => r_a8IISN1N1N8II (Ak k false 52 [V.one (X.d (D.int IntKind.i64 κ)), V.agg [X.d (D.int IntKind.i64 t.kind), X.d (D.str (bx t.text)), X.d (D.int IntKind.i64 t.n), X.d (D.int IntKind.i64 t.line), X.d (D.int IntKind.i64 t.col)]] []) (K m k n) (Q m k n)) r :=
  fun hr => v_a8IISN1N1N8II (call52 _ _ _ _ _ _ (Ev.of fun m k n => by rw [e52_eq]; rfl)) (h hr)
end
/-! ### Does a list hold a string? -/
theorem L_index (ls : List (List UInt8)) (hls : ls.length ≤ 1000000) (s : List UInt8) : ∀ (d i : Nat), ls.length - i ≤ d → i ≤ ls.length → ∃ v : Int, (decide (v ≥ 0) = (ls.drop i).contains s) ∧
    Ev (fun m k n => l103_0 m (Ak k) n (strs ls) (bx s) (Int.ofNat ls.length) (Int.ofNat i)) ⟨true, V.one (X.d (D.int IntKind.i64 v)), D.junk, [], 0⟩ := by
  intro d
  induction d with
  | zero =>
    intro i h hi
    refine ⟨-1, ?_, ?_⟩
    · rw [List.drop_eq_nil_of_le (by omega)]; rfl
    · refine Ev.step ?_
      simp only [l103_0_eq, lt_no i _ (show ls.length ≤ i by omega), cond_false]
      exact Ev.of fun m k n => by rw [q103_2_eq]
  | succ d ih =>
    intro i h hi
    by_cases hlt : i < ls.length
    · have hat : (strs ls).getD i [] = [D.str (bx (ls.getD i []))] := by
        unfold strs
        rw [rows_getD _ _ _ hlt]
        rfl
      have hdrop : ls.drop i = ls.getD i [] :: ls.drop (i + 1) := by
        rw [List.drop_eq_getElem_cons hlt, List.getD_eq_getElem?_getD, List.getElem?_eq_getElem hlt]
        rfl
      by_cases he : ls.getD i [] = s
      · refine ⟨Int.ofNat i, ?_, ?_⟩
        · rw [hdrop, he]
          simp
        · refine Ev.step ?_
          simp only [l103_0_eq, lt_yes i _ hlt, cond_true]
          refine Ev.of fun m k n => ?_
          rw [q103_0_eq, strs_len, in_range i _ hlt, cond_true, tn, hat, he]
          show (bif beqL (bx s).data.toList (bx s).data.toList then _ else _) = _
          rw [beqL_eq, beq_self_eq_true]
          rfl
      · obtain ⟨v, hv, hev⟩ := ih (i + 1) (by omega) (by omega)
        refine ⟨v, ?_, ?_⟩
        · rw [hv, hdrop, List.contains_cons]
          have : (s == ls.getD i []) = false := by simpa using fun e => he e.symm
          rw [this, Bool.false_or]
        · refine Ev.step (Ev.eq hev fun m k n => ?_)
          rw [l103_0_eq, lt_yes i _ hlt, cond_true, q103_0_eq, strs_len, in_range i _ hlt, cond_true, tn, hat]
          show (bif beqL (bx s).data.toList (bx (ls.getD i [])).data.toList then _ else _) = _
          rw [beqL_eq, bx_data, bx_data, show (s == ls.getD i []) = false by simpa using fun e => he e.symm, cond_false, q103_1_eq, wrap_up i (by omega)]
    · refine ⟨-1, ?_, ?_⟩
      · rw [List.drop_eq_nil_of_le (by omega)]; rfl
      · refine Ev.step ?_
        simp only [l103_0_eq, lt_no i _ (show ls.length ≤ i by omega), cond_false]
        exact Ev.of fun m k n => by rw [q103_2_eq]
theorem C_contains (ls : List (List UInt8)) (hls : ls.length ≤ 1000000) (s : List UInt8) : Cal 95 [V.one (X.d (D.list 1 (strs ls))), V.one (X.d (D.str (bx s)))] [] ⟨true, V.one (X.d (D.bool (ls.contains s))), D.junk, [], 0⟩ := by
  obtain ⟨v, hv, hev⟩ := L_index ls hls s ls.length 0 (by omega) (by omega)
  refine call95 _ _ ?_
  simp only [e95_eq]
  refine v_oI (y0 := v) (call103 _ _ ?_) (Ev.of fun m k n => by rw [hv]; rfl)
  simp only [e103_eq, strs_len]
  exact Ev.diag hev
/-! ### The operator that comes -/
def opAt (n : Nat) (t : Tok) : List UInt8 := if (opsOf n).any (fun s => isT s t) then t.text else []
theorem run_any {α : Type} {P : (q : NT) → Nat → Rs (Ret q)} {l : List Tok} (y n : Pm α) (i : Nat) : ∀ ss : List (List UInt8), run P l (Pm.any ss y n) i = if ss.any (fun s => isT s (tk l i)) then run P l y i else run P l n i
  | [] => rfl
  | s :: ss => by
    show run P l (.tst s y (Pm.any ss y n)) i = _
    rw [run, List.any_cons]
    cases isT s (tk l i)
    · rw [cond_false, Bool.false_or]; exact run_any y n i ss
    · rfl
theorem isT_sign {s : List UInt8} {t : Tok} (h : (t.kind == 4 || t.kind == 2) = true) : isT s t = (t.text == s) := by unfold isT; rw [h, Bool.true_and]
theorem isT_none {s : List UInt8} {t : Tok} (h : (t.kind == 4 || t.kind == 2) = false) : isT s t = false := by unfold isT; rw [h, Bool.false_and]
theorem C_oper {l : List Tok} {i : Nat} (hi : i < l.length) (n : Nat) (hn : n ≤ 5) : Cal 82 [V.one (X.ptr 0 0), V.one (X.d (D.int IntKind.i64 (Int.ofNat n)))] (rds l i) ⟨true, V.one (X.d (D.str (bx (opAt n (tk l i))))), D.junk, [rd l i], 0⟩ := by
  refine call82 _ _ _ ?_
  simp only [e82_eq]
  refine v_a5ISIII_L5I (C_token hi) ?_
  generalize tk l i = t
  cases hk : (t.kind == 4 || t.kind == 2) with
  | false =>
    rw [Bool.or_eq_false_iff] at hk
    have h0 : opAt n t = [] := by
      unfold opAt
      rw [if_neg]
      rw [Bool.not_eq_true, List.any_eq_false]
      exact fun s _ => by rw [isT_none (by rw [hk.1, hk.2]; rfl)]; simp
    refine Ev.of fun m k n' => ?_
    rw [h0, show (t.kind != 4) = true by rw [bne, hk.1]; rfl, show (t.kind != 2) = true by rw [bne, hk.2]; rfl]
    rfl
  | true =>
    have hq : Ev (fun m k n' => q82_0 (Ak k) n' (toks l) (Int.ofNat i) (Int.ofNat n) (toks l) (Int.ofNat i) t.kind (bx t.text) t.n t.line t.col) ⟨true, V.one (X.d (D.str (bx (opAt n t)))), D.junk, [rd l i], 0⟩ := by
      have e1 : ∀ s, isT s t = (t.text == s) := fun s => isT_sign hk
      simp only [q82_0_eq, beqL_eq, bx_data, q82_1_eq]
      unfold opAt
      simp only [e1]
      have fin : ∀ {c : Bool} {z : List UInt8}, c = true → Ev (fun _ _ _ => some (Out.mk true (V.one (X.d (D.str (bx t.text)))) D.junk [rd l i] 0)) ⟨true, V.one (X.d (D.str (bx (if c = true then t.text else z)))), D.junk, [rd l i], 0⟩ := fun {c z} h => by rw [if_pos h]; exact Ev.ret _
      have non : ∀ {c : Bool} {z : List UInt8}, c = false → Ev (fun _ _ _ => some (Out.mk true (V.one (X.d (D.str ⟨#[]⟩))) D.junk [rd l i] 0)) ⟨true, V.one (X.d (D.str (bx (if c = true then z else [])))), D.junk, [rd l i], 0⟩ := fun {c z} h => by rw [h]; exact Ev.ret _
      match n, hn with
      | 0, _ =>
        cases h : t.text == wOr
        · exact non (by simp [opsOf, h])
        · exact fin (by simp [opsOf, h])
      | 1, _ =>
        cases h : t.text == wAnd
        · exact non (by simp [opsOf, h])
        · exact fin (by simp [opsOf, h])
      | 2, _ =>
        refine Ev.no rfl (Ev.no rfl (Ev.yes rfl ?_))
        refine v_oB (C_contains [wEqEq, wLt, wLe] (by simp) t.text) ?_
        have e2 : [wEqEq, wLt, wLe].contains t.text = (opsOf 2).any fun s => t.text == s := by
          rw [List.contains_cons, List.contains_cons, List.contains_cons, List.contains_nil]
          rfl
        rw [← e2]
        cases h : [wEqEq, wLt, wLe].contains t.text
        · exact non rfl
        · exact fin rfl
      | 3, _ =>
        cases h : t.text == wCc
        · exact non (by simp [opsOf, h])
        · exact fin (by simp [opsOf, h])
      | 4, _ =>
        cases h : t.text == wPl
        · cases h2 : t.text == wMi
          · exact non (by simp [opsOf, h, h2])
          · exact fin (by simp [opsOf, h, h2])
        · exact fin (by simp [opsOf, h])
      | 5, _ =>
        cases h : t.text == wTi
        · cases h2 : t.text == wSl
          · cases h3 : t.text == wPc
            · exact non (by simp [opsOf, h, h2, h3])
            · exact fin (by simp [opsOf, h, h2, h3])
          · exact fin (by simp [opsOf, h, h2])
        · exact fin (by simp [opsOf, h])
    cases h4 : t.kind == 4
    · rw [h4, Bool.false_or] at hk
      refine Ev.eq hq fun m k n' => ?_
      rw [show (t.kind != 4) = true by rw [bne, h4]; rfl, show (t.kind != 2) = false by rw [bne, hk]; rfl]
      rfl
    · refine Ev.eq hq fun m k n' => ?_
      rw [show (t.kind != 4) = false by rw [bne, h4]; rfl]
      rfl
end Go.Proofs.Ytbmcafehpgimfaa.Ps
