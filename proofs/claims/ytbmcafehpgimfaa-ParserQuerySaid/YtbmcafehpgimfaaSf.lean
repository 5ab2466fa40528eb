/- The program's reader of expressions: names, choices, and the head of an expression. -/
import Derived.Test.YtbmcafehpgimfaaSe
namespace Go.Proofs.Ytbmcafehpgimfaa.Ps
set_option linter.unusedVariables false
set_option linter.unusedSimpArgs false
open Go Go.RowKit Px
open Lx (Tok)
open Pm (want)

section
variable {l : List Tok} {P : (q : NT) → Nat → Rs (Ret q)}
theorem S_ret {k n : Int} {s : List UInt8} {ns : List (List UInt8)} {os : List Int} {ks : List E} {a b : Int} {rows names odds : List (List D)} {j : Nat} {F : Nat → Nat → Nat → Option Out}
    (h1 : rows = E.rows ks) (h2 : names = strs ns) (h3 : odds = ints os)
    (hF : ∀ m k' n', F m k' n' = some ⟨true, V.agg [iX k, iX n, sX s, X.d (D.list 1 names), X.d (D.list 1 odds), X.d (D.list 8 rows), iX a, iX b], D.junk, [rd l j], 0⟩) :
    Sim l eV F (run P l (.ret (E.mk k n s ns os ks a b)) j) := by
  subst h1 h2 h3
  exact Sim.ret hF
theorem S_fail {α : Type} {enc : α → V} {i : Nat} (hi : i < l.length) {K : Nat → Nat → Nat → List (List D) → Int → Option Out} {Q : Nat → Nat → Nat → D → List (List D) → Int → Option Out} (hp : PanOn Q) :
    Sim l enc (fun m k n => r_n_L5I (Ak k false 50 [V.one (X.ptr 0 0)] (rds l i)) (K m k n) (Q m k n)) (run P l .fail i) :=
  fun hr => u_n_L5I (C_fail hi) (Ev.of fun m k n => hp m k n _ _ _)
theorem E.rows_two (x y : E) : E.rows [x, y] = [[D.int IntKind.i64 x.k, D.int IntKind.i64 x.n, D.str (bx x.name), D.list 1 (strs x.names), D.list 1 (ints x.odds), D.list 8 (E.rows x.kids), D.int IntKind.i64 x.line, D.int IntKind.i64 x.col], [D.int IntKind.i64 y.k, D.int IntKind.i64 y.n, D.str (bx y.name), D.list 1 (strs y.names), D.list 1 (ints y.odds), D.list 8 (E.rows y.kids), D.int IntKind.i64 y.line, D.int IntKind.i64 y.col]] := by
  rw [E.rows_cons, E.rows_cons, E.rows_nil]
theorem E.rows_three (x y z : E) : E.rows [x, y, z] = [[D.int IntKind.i64 x.k, D.int IntKind.i64 x.n, D.str (bx x.name), D.list 1 (strs x.names), D.list 1 (ints x.odds), D.list 8 (E.rows x.kids), D.int IntKind.i64 x.line, D.int IntKind.i64 x.col], [D.int IntKind.i64 y.k, D.int IntKind.i64 y.n, D.str (bx y.name), D.list 1 (strs y.names), D.list 1 (ints y.odds), D.list 8 (E.rows y.kids), D.int IntKind.i64 y.line, D.int IntKind.i64 y.col], [D.int IntKind.i64 z.k, D.int IntKind.i64 z.n, D.str (bx z.name), D.list 1 (strs z.names), D.list 1 (ints z.odds), D.list 8 (E.rows z.kids), D.int IntKind.i64 z.line, D.int IntKind.i64 z.col]] := by
  rw [E.rows_cons, E.rows_cons, E.rows_cons, E.rows_nil]
theorem strs_one (a : List UInt8) : strs [a] = [[D.str (bx a)]] := rfl
theorem strs_two (a b : List UInt8) : strs [a, b] = [[D.str (bx a)], [D.str (bx b)]] := rfl

/-! ### Names -/
theorem lets_ok (hl : Few l) (i : Nat) (hi : i < l.length) (H : After l i) (t : Tok) (ns : List (List UInt8)) (z' : List (List D)) (z3 x2 x3 : Int) (s4 : ByteArray) (x5 x6 : Int) :
    Sim l eV (fun _ k n => q24_2 (Ak k) n z' z3 (toks l) (Int.ofNat i) x2 x3 s4 x5 x6 8 0 (bx []) (strs ns) t.line t.col) (run (pw l) l (lets t ns) i) := by
  have g := hl.good
  simp only [q24_2_eq]
  unfold lets
  refine S_want hl.len hi wEq (fun _ _ _ _ _ _ => rfl) fun h => ?_
  have h1 := nx g hi h
  rw [run_call]
  refine S_E (H _ (by omega) h1).expr (fun _ _ _ _ _ _ => rfl) fun a j hj => ?_
  have hf := pw_ok g h1 hj
  refine S_want hl.len hf.2 wIn (fun _ _ _ _ _ _ => rfl) fun h2 => ?_
  have h3 := nx g hf.2 h2
  rw [run_call]
  refine S_E (H _ (by omega) h3).expr (fun _ _ _ _ _ _ => rfl) fun b j2 hj2 => ?_
  exact S_ret (E.rows_two a b).symm rfl rfl fun _ _ _ => rfl
theorem names_ok (hl : Few l) (t : Tok) (z' : List (List D)) (z3 x2 x3 : Int) (s4 : ByteArray) (x5 x6 : Int) : ∀ (d i : Nat), i < l.length → l.length - i ≤ d → After l i → ∀ acc : List (List UInt8), acc.length ≤ i →
    Sim l eV (fun m k n => l24_0 m (Ak k) n z' z3 (toks l) (Int.ofNat i) x2 x3 s4 x5 x6 8 0 (bx []) (strs acc) t.line t.col) (run (pw l) l (.call .names fun r => lets t (acc ++ r)) i)
  | 0, i, hi, h, _, _, _ => by omega
  | d + 1, i, hi, h, H, acc, ha => by
    have g := hl.good
    rw [run_open g _ _ i hi]
    refine Sim.step ?_
    simp only [l24_0_eq]
    refine S_take hl.len hi wCm (fun h => Sim.yes rfl ?_) (fun h => Sim.no rfl ?_)
    · have h1 := nx g hi h
      simp only [q24_0_eq]
      refine S_kind hl.len h1 1 (fun _ _ _ _ _ _ => rfl) fun h2 => ?_
      have h3 := nxk g h1 h2 (by decide)
      refine Sim.yes (by rw [strs_len]; exact roomy _ _ (by have := hl.len; omega) (by omega)) ?_
      rw [← strs_app]
      have := names_ok hl t z' z3 x2 x3 s4 x5 x6 d (i + 1 + 1) h3 (by omega) (fun j' h1 h2 => H j' (by omega) h2) (acc ++ [(tk l (i + 1)).text]) (by rw [List.length_append, List.length_singleton]; omega)
      simp only [List.append_assoc, List.singleton_append] at this
      exact this
    · simp only [q24_1_eq]
      refine S_want hl.len hi wRp (fun _ _ _ _ _ _ => rfl) fun h2 => ?_
      have h3 := nx g hi h2
      show Sim l eV _ (run (pw l) l (lets t (acc ++ [])) (i + 1))
      rw [List.append_nil]
      exact lets_ok hl (i + 1) h3 (fun j' h1 h2 => H j' (by omega) h2) t acc z' z3 x2 x3 s4 x5 x6

/-! ### Choices -/
theorem case_ok (hl : Few l) (i : Nat) (hi : i < l.length) (H : After l i) (t : Tok) (x : E) (z' : List (List D)) (z3 x2 x3 : Int) (s4 : ByteArray) (x5 x6 : Int) :
    Sim l eV (fun m k n => l24_1 m (Ak k) n z' z3 (strs [wOf, wLb, wRb, wAr]) 4 0 (toks l) (Int.ofNat i) x2 x3 s4 x5 x6 10 0 (bx []) (E.rows [x]) t.line t.col) (run (pw l) l (want wOf (want wLb (want wRb (want wAr (caseK2 t x))))) i) := by
  have g := hl.good
  refine Sim.step ?_
  simp only [l24_1_eq, q24_3_eq, q24_4_eq]
  refine Sim.yes rfl (Sim.yes rfl ?_)
  refine S_want hl.len hi wOf (fun _ _ _ _ _ _ => rfl) fun h => ?_
  have h1 := nx g hi h
  refine Sim.step ?_
  simp only [l24_1_eq, q24_3_eq, q24_4_eq]
  refine Sim.yes rfl (Sim.yes rfl ?_)
  refine S_want hl.len h1 wLb (fun _ _ _ _ _ _ => rfl) fun h => ?_
  have h2 := nx g h1 h
  refine Sim.step ?_
  simp only [l24_1_eq, q24_3_eq, q24_4_eq]
  refine Sim.yes rfl (Sim.yes rfl ?_)
  refine S_want hl.len h2 wRb (fun _ _ _ _ _ _ => rfl) fun h => ?_
  have h3 := nx g h2 h
  refine Sim.step ?_
  simp only [l24_1_eq, q24_3_eq, q24_4_eq]
  refine Sim.yes rfl (Sim.yes rfl ?_)
  refine S_want hl.len h3 wAr (fun _ _ _ _ _ _ => rfl) fun h => ?_
  have h4 := nx g h3 h
  refine Sim.step ?_
  simp only [l24_1_eq, q24_5_eq]
  refine Sim.no rfl ?_
  refine Eq.subst (motive := fun r => Sim l eV _ r) (run_call _ _ _).symm ?_
  refine S_E (H _ (by omega) h4).expr (fun _ _ _ _ _ _ => rfl) fun a j hj => ?_
  have hf := pw_ok g h4 hj
  refine Sim.yes (by rw [E.rows_len]; rfl) ?_
  refine S_want hl.len hf.2 wBar (fun _ _ _ _ _ _ => rfl) fun h => ?_
  have h5 := nx g hf.2 h
  refine S_kind hl.len h5 1 (fun _ _ _ _ _ _ => rfl) fun h => ?_
  have h6 := nxk g h5 h (by decide)
  refine S_want hl.len h6 wCc (fun _ _ _ _ _ _ => rfl) fun h => ?_
  have h7 := nx g h6 h
  refine S_kind hl.len h7 1 (fun _ _ _ _ _ _ => rfl) fun h => ?_
  have h8 := nxk g h7 h (by decide)
  refine S_want hl.len h8 wAr (fun _ _ _ _ _ _ => rfl) fun h => ?_
  have h9 := nx g h8 h
  refine Eq.subst (motive := fun r => Sim l eV _ r) (run_call _ _ _).symm ?_
  refine S_E (H _ (by omega) h9).expr (fun _ _ _ _ _ _ => rfl) fun b j2 hj2 => ?_
  refine Sim.yes (by rw [List.length_append, E.rows_len]; rfl) ?_
  refine S_ret ?_ rfl rfl fun _ _ _ => rfl
  rw [← E.rows_app, ← E.rows_app]
  rfl

/-! ### An expression -/
theorem expr_ok (hl : Few l) (i : Nat) (hi : i < l.length) (H : After l i) (h0 : Sim l eV (fun _ k _ => Ak k false 56 [V.one (X.ptr 0 0), V.one (X.d (D.int IntKind.i64 0))] (rds l i)) (pw l (.level 0) i)) :
    Sim l eV (fun _ k _ => Ak k false 24 [V.one (X.ptr 0 0)] (rds l i)) (pw l .expr i) := by
  have g := hl.good
  rw [pw_eq g _ i hi]
  refine fun hr => call24 _ _ ((?_ : Sim l eV (fun _ k n => e24 (Ak k) n (toks l) (Int.ofNat i)) (run (pw l) l (body .expr) i)) hr)
  clear hr
  simp only [e24_eq]
  refine S_token hi ?_
  refine S_take hl.len hi wLet (fun h => Sim.yes rfl ?_) (fun h => Sim.no rfl ?_)
  · have h1 := nx g hi h
    refine S_begin 8 (tk l i) ?_
    refine S_take hl.len h1 wLp (fun h => Sim.yes rfl ?_) (fun h => Sim.no rfl ?_)
    · have h2 := nx g h1 h
      refine S_kind hl.len h2 1 (fun _ _ _ _ _ _ => rfl) fun h => ?_
      have h3 := nxk g h2 h (by decide)
      refine S_want hl.len h3 wCm (fun _ _ _ _ _ _ => rfl) fun h => ?_
      have h4 := nx g h3 h
      refine S_kind hl.len h4 1 (fun _ _ _ _ _ _ => rfl) fun h => ?_
      have h5 := nxk g h4 h (by decide)
      exact Sim.diag (names_ok hl (tk l i) _ _ _ _ _ _ _ _ _ h5 (Nat.le_refl _) (fun j' h1 h2 => H j' (by omega) h2) [(tk l (i + 1 + 1)).text, (tk l (i + 1 + 1 + 1 + 1)).text] (by simp only [List.length_cons, List.length_nil]; omega))
    · refine S_kind hl.len h1 1 (fun _ _ _ _ _ _ => rfl) fun h => ?_
      have h3 := nxk g h1 h (by decide)
      exact lets_ok hl _ h3 (fun j' h1 h2 => H j' (by omega) h2) (tk l i) [(tk l (i + 1)).text] _ _ _ _ _ _ _
  refine S_take hl.len hi wIf (fun h => Sim.yes rfl ?_) (fun h => Sim.no rfl ?_)
  · have h1 := nx g hi h
    refine S_begin 9 (tk l i) ?_
    refine Eq.subst (motive := fun r => Sim l eV _ r) (run_call _ _ _).symm ?_
    refine S_E (H _ (by omega) h1).expr (fun _ _ _ _ _ _ => rfl) fun a j hj => ?_
    have hf := pw_ok g h1 hj
    refine S_want hl.len hf.2 wThen (fun _ _ _ _ _ _ => rfl) fun h => ?_
    have h2 := nx g hf.2 h
    refine Eq.subst (motive := fun r => Sim l eV _ r) (run_call _ _ _).symm ?_
    refine S_E (H _ (by omega) h2).expr (fun _ _ _ _ _ _ => rfl) fun b j2 hj2 => ?_
    have hf2 := pw_ok g h2 hj2
    refine S_want hl.len hf2.2 wElse (fun _ _ _ _ _ _ => rfl) fun h => ?_
    have h3 := nx g hf2.2 h
    refine Eq.subst (motive := fun r => Sim l eV _ r) (run_call _ _ _).symm ?_
    refine S_E (H _ (by omega) h3).expr (fun _ _ _ _ _ _ => rfl) fun c j3 hj3 => ?_
    exact S_ret (E.rows_three a b c).symm rfl rfl fun _ _ _ => rfl
  refine S_take hl.len hi wCase (fun h => Sim.yes rfl ?_) (fun h => Sim.no rfl ?_)
  · have h1 := nx g hi h
    refine S_begin 10 (tk l i) ?_
    refine Eq.subst (motive := fun r => Sim l eV _ r) (run_call _ _ _).symm ?_
    refine S_E (H _ (by omega) h1).expr (fun _ _ _ _ _ _ => rfl) fun a j hj => ?_
    have hf := pw_ok g h1 hj
    rw [← E.rows_one]
    exact Sim.diag (case_ok hl j hf.2 (fun j' h1 h2 => H j' (by omega) h2) (tk l i) a _ _ _ _ _ _ _)
  refine S_take hl.len hi wObserve (fun h => Sim.yes rfl ?_) (fun h => Sim.no rfl ?_)
  · have h1 := nx g hi h
    refine S_begin 11 (tk l i) ?_
    refine Eq.subst (motive := fun r => Sim l eV _ r) (run_call _ _ _).symm ?_
    refine S_E (H _ (by omega) h1).expr (fun _ _ _ _ _ _ => rfl) fun a j hj => ?_
    have hf := pw_ok g h1 hj
    refine S_want hl.len hf.2 wIn (fun _ _ _ _ _ _ => rfl) fun h => ?_
    have h2 := nx g hf.2 h
    refine Eq.subst (motive := fun r => Sim l eV _ r) (run_call _ _ _).symm ?_
    refine S_E (H _ (by omega) h2).expr (fun _ _ _ _ _ _ => rfl) fun b j2 hj2 => ?_
    exact S_ret (E.rows_two a b).symm rfl rfl fun _ _ _ => rfl
  refine S_take hl.len hi wScore (fun h => Sim.yes rfl ?_) (fun h => Sim.no rfl ?_)
  · have h1 := nx g hi h
    refine S_begin 12 (tk l i) ?_
    refine Eq.subst (motive := fun r => Sim l eV _ r) (run_call _ _ _).symm ?_
    refine S_O (share_ok hl _ h1) (fun _ _ _ _ _ _ => rfl) fun a j hj => ?_
    have hf := pw_ok g h1 hj
    refine S_want hl.len hf.2 wIn (fun _ _ _ _ _ _ => rfl) fun h => ?_
    have h2 := nx g hf.2 h
    refine Eq.subst (motive := fun r => Sim l eV _ r) (run_call _ _ _).symm ?_
    refine S_E (H _ (by omega) h2).expr (fun _ _ _ _ _ _ => rfl) fun b j2 hj2 => ?_
    exact S_ret (E.rows_one b).symm rfl rfl fun _ _ _ => rfl
  simp only [q24_6_eq]
  refine Eq.subst (motive := fun r => Sim l eV _ r) (run_call _ _ _).symm ?_
  exact S_E h0 (fun _ _ _ _ _ _ => rfl) fun a j hj => Sim.ret fun _ _ _ => rfl

/-! ### The signs ahead, and the levels -/
theorem unary_ok (hl : Few l) (i : Nat) (hi : i < l.length) (H : After l i) (h0 : Sim l eV (fun _ k _ => Ak k false 94 [V.one (X.ptr 0 0)] (rds l i)) (pw l .atom i)) :
    Sim l eV (fun _ k _ => Ak k false 81 [V.one (X.ptr 0 0)] (rds l i)) (pw l .unary i) := by
  have g := hl.good
  rw [pw_eq g _ i hi]
  refine fun hr => call81 _ _ ((?_ : Sim l eV (fun _ k n => e81 (Ak k) n (toks l) (Int.ofNat i)) (run (pw l) l (body .unary) i)) hr)
  clear hr
  simp only [e81_eq, q81_0_eq]
  refine S_token hi ?_
  refine S_take hl.len hi wNot (fun h => Sim.yes rfl ?_) (fun h => Sim.no rfl ?_)
  · have h1 := nx g hi h
    refine S_begin 7 (tk l i) ?_
    refine Eq.subst (motive := fun r => Sim l eV _ r) (run_call _ _ _).symm ?_
    refine S_E (H _ (by omega) h1).unary (fun _ _ _ _ _ _ => rfl) fun a j hj => ?_
    exact S_ret (E.rows_one a).symm rfl rfl fun _ _ _ => rfl
  refine S_take hl.len hi wMi (fun h => Sim.yes rfl ?_) (fun h => Sim.no rfl ?_)
  · have h1 := nx g hi h
    refine S_begin 7 (tk l i) ?_
    refine Eq.subst (motive := fun r => Sim l eV _ r) (run_call _ _ _).symm ?_
    refine S_E (H _ (by omega) h1).unary (fun _ _ _ _ _ _ => rfl) fun a j hj => ?_
    exact S_ret (E.rows_one a).symm rfl rfl fun _ _ _ => rfl
  refine Eq.subst (motive := fun r => Sim l eV _ r) (run_call _ _ _).symm ?_
  exact S_E h0 (fun _ _ _ _ _ _ => rfl) fun a j hj => Sim.ret fun _ _ _ => rfl
theorem body_level (n : Nat) (hn : n ≤ 5) : body (.level n) = .call (.level (n + 1)) fun l => .call (.loop n l) .ret := by
  match n, hn with
  | 0, _ | 1, _ | 2, _ | 3, _ | 4, _ | 5, _ => rfl
theorem level_ok (hl : Few l) (n : Nat) (hn : n ≤ 5) (i : Nat) (hi : i < l.length) (H : After l i)
    (h0 : Sim l eV (fun _ k _ => Ak k false 56 [V.one (X.ptr 0 0), V.one (X.d (D.int IntKind.i64 (Int.ofNat (n + 1))))] (rds l i)) (pw l (.level (n + 1)) i)) :
    Sim l eV (fun _ k _ => Ak k false 56 [V.one (X.ptr 0 0), V.one (X.d (D.int IntKind.i64 (Int.ofNat n)))] (rds l i)) (pw l (.level n) i) := by
  have g := hl.good
  rw [pw_eq g _ i hi, body_level n hn]
  refine fun hr => call56 _ _ _ ((?_ : Sim l eV (fun _ k n' => e56 (Ak k) n' (Int.ofNat n) (toks l) (Int.ofNat i)) (run (pw l) l (.call (.level (n + 1)) fun l => .call (.loop n l) .ret) i)) hr)
  clear hr
  simp only [e56_eq, q56_0_eq]
  refine Sim.no (by rw [beq_eq_false_iff_ne]; simp only [Int.ofNat_eq_natCast]; omega) ?_
  rw [wrap_up n (by omega)]
  refine Eq.subst (motive := fun r => Sim l eV _ r) (run_call _ _ _).symm ?_
  refine S_E h0 (fun _ _ _ _ _ _ => rfl) fun a j hj => ?_
  have hf := pw_ok g hi hj
  exact Sim.diag (loop_ok hl n hn _ j hf.2 (Nat.le_refl _) (fun j' h1 h2 => H j' (by omega) h2) a _ _ _ _ _ _ _).1
theorem level6_ok (hl : Few l) (i : Nat) (hi : i < l.length)
    (h0 : Sim l eV (fun _ k _ => Ak k false 81 [V.one (X.ptr 0 0)] (rds l i)) (pw l .unary i)) :
    Sim l eV (fun _ k _ => Ak k false 56 [V.one (X.ptr 0 0), V.one (X.d (D.int IntKind.i64 (Int.ofNat 6)))] (rds l i)) (pw l (.level 6) i) := by
  have g := hl.good
  rw [pw_eq g _ i hi]
  refine fun hr => call56 _ _ _ ((?_ : Sim l eV (fun _ k n' => e56 (Ak k) n' (Int.ofNat 6) (toks l) (Int.ofNat i)) (run (pw l) l (.call .unary .ret) i)) hr)
  clear hr
  simp only [e56_eq]
  refine Sim.yes rfl ?_
  refine Eq.subst (motive := fun r => Sim l eV _ r) (run_call _ _ _).symm ?_
  exact S_E h0 (fun _ _ _ _ _ _ => rfl) fun a j hj => Sim.ret fun _ _ _ => rfl
end
end Go.Proofs.Ytbmcafehpgimfaa.Ps
