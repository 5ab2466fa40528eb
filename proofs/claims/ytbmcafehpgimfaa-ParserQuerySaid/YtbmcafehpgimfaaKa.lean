/- An expression is placed as itself. -/
import Derived.Test.YtbmcafehpgimfaaSs
import Derived.Test.YtbmcafehpgimfaaPvW
namespace Go.Proofs.Ytbmcafehpgimfaa.Ps
set_option linter.unusedVariables false
set_option linter.unusedSimpArgs false
open Go Go.RowKit Px
open Lx (Tok)

theorem strs_at (ks : List (List UInt8)) (i : Nat) (h : i < ks.length) : (strs ks).getD i [] = [D.str (bx ks[i])] := by
  unfold strs
  rw [rows_getD _ _ _ h, List.getD_eq_getElem?_getD, List.getElem?_eq_getElem h]
  rfl
theorem ints_at (ks : List Int) (i : Nat) (h : i < ks.length) : (ints ks).getD i [] = [D.int IntKind.i64 ks[i]] := by
  unfold ints
  rw [rows_getD _ _ _ h, List.getD_eq_getElem?_getD, List.getElem?_eq_getElem h]
  rfl
abbrev PEX (e : E) (F : Int → Int → ByteArray → List (List D) → List (List D) → List (List D) → Int → Int → Option Out) : Option Out := F e.k e.n (bx e.name) (strs e.names) (ints e.odds) (E.rows e.kids) e.line e.col
theorem ne_self (a : Int) : (a != a) = false := by simp
theorem beqL_self (s : ByteArray) : beqL s.data.toList s.data.toList = true := by rw [beqL_eq]; simp
theorem lpc2 (e : E) (hk : e.kids.length < 9223372036854775807) (H : ∀ x ∈ e.kids, Cal 13 [eV x, eV x] [] (RV (V.one (bX true)))) : ∀ (d i : Nat), i ≤ e.kids.length → e.kids.length - i = d →
    Ev (fun m k n => l13_2 m (Ak k) n (Int.ofNat i) e.k e.n (bx e.name) (strs e.names) (ints e.odds) (E.rows e.kids) e.line e.col e.k e.n (bx e.name) (strs e.names) (ints e.odds) (E.rows e.kids) e.line e.col) (RV (V.one (bX true))) := by
  intro d
  induction d with
  | zero =>
    intro i hi hd
    refine Ev.step ?_
    simp only [l13_2_eq, E.rows_len]
    exact Ev.no (lt_no i _ (by omega)) (Ev.of fun m k n => by rw [q13_9_eq])
  | succ d ih =>
    intro i hi hd
    have hlt : i < e.kids.length := by omega
    have hat := E.rows_at e.kids i hlt
    rw [E.row_eq] at hat
    refine Ev.step ?_
    simp only [l13_2_eq, E.rows_len]
    refine Ev.yes (lt_yes i _ hlt) ?_
    simp only [q13_7_eq, tn, hat, E.rows_len]
    refine Ev.yes (in_range i _ hlt) (Ev.yes (in_range i _ hlt) ?_)
    refine v_oB (H e.kids[i] (List.getElem_mem hlt)) (Ev.no rfl ?_)
    simp only [q13_8_eq, wrap_up i (show i < 9223372036854775807 by omega)]
    exact ih (i + 1) (by omega) (by omega)
theorem lpc1 (e : E) (ho : e.odds.length < 9223372036854775807) {r : Out} (hr : Ev (fun m k n => l13_2 m (Ak k) n 0 e.k e.n (bx e.name) (strs e.names) (ints e.odds) (E.rows e.kids) e.line e.col e.k e.n (bx e.name) (strs e.names) (ints e.odds) (E.rows e.kids) e.line e.col) r) : ∀ (d i : Nat), i ≤ e.odds.length → e.odds.length - i = d →
    Ev (fun m k n => l13_1 m (Ak k) n (Int.ofNat i) e.k e.n (bx e.name) (strs e.names) (ints e.odds) (E.rows e.kids) e.line e.col e.k e.n (bx e.name) (strs e.names) (ints e.odds) (E.rows e.kids) e.line e.col) r := by
  intro d
  induction d with
  | zero =>
    intro i hi hd
    refine Ev.step ?_
    simp only [l13_1_eq, ints_len]
    refine Ev.no (lt_no i _ (by omega)) ?_
    simp only [q13_6_eq]
    exact Ev.diag hr
  | succ d ih =>
    intro i hi hd
    have hlt : i < e.odds.length := by omega
    have hat := ints_at e.odds i hlt
    refine Ev.step ?_
    simp only [l13_1_eq, ints_len]
    refine Ev.yes (lt_yes i _ hlt) ?_
    simp only [q13_4_eq, tn, hat, ints_len, ne_self]
    refine Ev.yes (in_range i _ hlt) (Ev.yes (in_range i _ hlt) (Ev.yes rfl (Ev.yes rfl (Ev.no rfl ?_))))
    simp only [q13_5_eq, wrap_up i (show i < 9223372036854775807 by omega)]
    exact ih (i + 1) (by omega) (by omega)
theorem lpc0 (e : E) (ho : e.names.length < 9223372036854775807) {r : Out} (hr : Ev (fun m k n => l13_1 m (Ak k) n 0 e.k e.n (bx e.name) (strs e.names) (ints e.odds) (E.rows e.kids) e.line e.col e.k e.n (bx e.name) (strs e.names) (ints e.odds) (E.rows e.kids) e.line e.col) r) : ∀ (d i : Nat), i ≤ e.names.length → e.names.length - i = d →
    Ev (fun m k n => l13_0 m (Ak k) n (Int.ofNat i) e.k e.n (bx e.name) (strs e.names) (ints e.odds) (E.rows e.kids) e.line e.col e.k e.n (bx e.name) (strs e.names) (ints e.odds) (E.rows e.kids) e.line e.col) r := by
  intro d
  induction d with
  | zero =>
    intro i hi hd
    refine Ev.step ?_
    simp only [l13_0_eq, strs_len]
    refine Ev.no (lt_no i _ (by omega)) ?_
    simp only [q13_3_eq]
    exact Ev.diag hr
  | succ d ih =>
    intro i hi hd
    have hlt : i < e.names.length := by omega
    have hat := strs_at e.names i hlt
    refine Ev.step ?_
    simp only [l13_0_eq, strs_len]
    refine Ev.yes (lt_yes i _ hlt) ?_
    simp only [q13_1_eq, tn, hat, strs_len, beqL_self]
    refine Ev.yes (in_range i _ hlt) (Ev.yes (in_range i _ hlt) (Ev.yes rfl (Ev.yes rfl (Ev.no rfl ?_))))
    simp only [q13_2_eq, wrap_up i (show i < 9223372036854775807 by omega)]
    exact ih (i + 1) (by omega) (by omega)
mutual
theorem C_placed : ∀ (e : E), wE e < 9223372036854775807 → Cal 13 [eV e, eV e] [] (RV (V.one (bX true)))
  | .mk k n s ns os ks a b, h => by
    have h0 := h
    rw [wE] at h
    have hkl := wEs_len ks
    have H := C_placedAll ks (by omega)
    refine call13 _ _ _ _ _ _ _ _ _ _ _ _ _ _ _ _ ?_
    simp only [e13_eq, ne_self, beqL_self]
    refine Ev.no rfl (Ev.no rfl (Ev.no rfl (Ev.no rfl (Ev.no rfl (Ev.no rfl (Ev.no rfl (Ev.no rfl ?_)))))))
    simp only [q13_0_eq]
    have h2 := lpc2 (.mk k n s ns os ks a b) (show ks.length < _ by omega) H _ 0 (Nat.zero_le _) rfl
    have h1 := lpc1 (.mk k n s ns os ks a b) (show os.length < _ by omega) h2 _ 0 (Nat.zero_le _) rfl
    exact Ev.diag (lpc0 (.mk k n s ns os ks a b) (show ns.length < _ by omega) h1 _ 0 (Nat.zero_le _) rfl)
theorem C_placedAll : ∀ (ks : List E), wEs ks < 9223372036854775807 → ∀ x ∈ ks, Cal 13 [eV x, eV x] [] (RV (V.one (bX true)))
  | [], _, x, hx => by cases hx
  | y :: r, hs, x, hx => by
    rw [wEs] at hs
    rcases List.mem_cons.1 hx with h | h
    · rw [h]; exact C_placed y (by omega)
    · exact C_placedAll r (by omega) x h
end
end Go.Proofs.Ytbmcafehpgimfaa.Ps
