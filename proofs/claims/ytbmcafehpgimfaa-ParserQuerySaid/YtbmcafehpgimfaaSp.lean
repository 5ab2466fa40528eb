/- What the program's readers are to do, as a relation to the small readers; the steps that all share. -/
import Derived.Test.YtbmcafehpgimfaaPvP
import Derived.Test.YtbmcafehpgimfaaEn
namespace Go.Proofs.Ytbmcafehpgimfaa.Ps
set_option linter.unusedVariables false
set_option linter.unusedSimpArgs false
open Go Go.RowKit Px
open Lx (Tok)

abbrev RD : List Lf := [Lf.lst 5, Lf.int IntKind.i64]
abbrev rd (l : List Tok) (i : Nat) : List X := [X.d (D.list 5 (toks l)), X.d (D.int IntKind.i64 (Int.ofNat i))]
abbrev rds (l : List Tok) (i : Nat) : List (List Lf × List X) := [(RD, rd l i)]
/-- The fault that a token makes. -/
def flt (t : Tok) : D := D.iface 30 [D.int IntKind.i64 11, D.str (bx t.text), D.int IntKind.i64 t.line, D.int IntKind.i64 t.col]
def outOf {α : Type} (l : List Tok) (enc : α → V) : Rs α → Out
  | .ok a j => ⟨true, enc a, D.junk, [rd l j], 0⟩
  | .no j => ⟨false, V.junk, flt (tk l j), [rd l j], 0⟩
  | .out => ⟨true, V.junk, D.junk, [], 0⟩
/-- F does what the reading r tells. -/
def Sim {α : Type} (l : List Tok) (enc : α → V) (F : Nat → Nat → Nat → Option Out) (r : Rs α) : Prop := r ≠ .out → Ev F (outOf l enc r)
theorem Sim.ret {α : Type} {l : List Tok} {enc : α → V} {F : Nat → Nat → Nat → Option Out} {P : (q : NT) → Nat → Rs (Ret q)} {a : α} {i : Nat} (h : ∀ m k n, F m k n = some ⟨true, enc a, D.junk, [rd l i], 0⟩) : Sim l enc F (run P l (.ret a) i) := fun _ => Ev.of h
theorem Sim.eq {α : Type} {l : List Tok} {enc : α → V} {F G : Nat → Nat → Nat → Option Out} {r : Rs α} (h : Sim l enc G r) (e : ∀ m k n, F m k n = G m k n) : Sim l enc F r := fun hr => (h hr).eq e
/-- The token that comes. -/
theorem C_token {l : List Tok} {i : Nat} (hi : i < l.length) : Cal 49 [V.one (X.ptr 0 0)] (rds l i) ⟨true, kV (tk l i), D.junk, [rd l i], 0⟩ := by
  refine call49 _ _ (Ev.of fun m k n => ?_)
  rw [e49_eq, toks_len, in_range i _ hi, cond_true, tn, toks_at l i hi]
  rfl
theorem C_is {l : List Tok} {i : Nat} (hi : i < l.length) (s : List UInt8) : Cal 80 [V.one (X.ptr 0 0), V.one (X.d (D.str (bx s)))] (rds l i) ⟨true, V.one (X.d (D.bool (isT s (tk l i)))), D.junk, [rd l i], 0⟩ := by
  refine call80 _ _ _ ?_
  simp only [e80_eq]
  refine v_a5ISIII_L5I (C_token hi) ?_
  refine Ev.of fun m k n => ?_
  unfold isT
  rw [bx_data, bx_data, beqL_eq]
  cases h4 : (tk l i).kind == 4
  · cases h2 : (tk l i).kind == 2
    · rfl
    · rfl
  · rfl
theorem C_fail {l : List Tok} {i : Nat} (hi : i < l.length) : Cal 50 [V.one (X.ptr 0 0)] (rds l i) ⟨false, V.junk, flt (tk l i), [rd l i], 0⟩ := by
  refine call50 _ _ ?_
  simp only [e50_eq]
  exact v_a5ISIII_L5I (C_token hi) (Ev.of fun m k n => rfl)
theorem up {l : List Tok} (hl : l.length ≤ 1000000) {i : Nat} (hi : i < l.length) : IntKind.wrap .i64 (Int.ofNat i + 1) = Int.ofNat (i + 1) := wrap_up i (by omega)
theorem C_take {l : List Tok} (hl : l.length ≤ 1000000) {i : Nat} (hi : i < l.length) (s : List UInt8) : Cal 51 [V.one (X.ptr 0 0), V.one (X.d (D.str (bx s)))] (rds l i)
    ⟨true, V.one (X.d (D.bool (isT s (tk l i)))), D.junk, [rd l (bif isT s (tk l i) then i + 1 else i)], 0⟩ := by
  refine call51 _ _ _ ?_
  simp only [e51_eq]
  refine v_oB_L5I (C_is hi s) ?_
  refine Ev.of fun m k n => ?_
  cases h : isT s (tk l i)
  · rw [cond_false, q51_0_eq]; rfl
  · rw [cond_true, up hl hi]; rfl
theorem C_want_yes {l : List Tok} (hl : l.length ≤ 1000000) {i : Nat} (hi : i < l.length) {s : List UInt8} (h : isT s (tk l i) = true) : Cal 54 [V.one (X.ptr 0 0), V.one (X.d (D.str (bx s)))] (rds l i)
    ⟨true, V.tup [], D.junk, [rd l (i + 1)], 0⟩ := by
  refine call54 _ _ _ ?_
  simp only [e54_eq]
  have := C_take hl hi s
  rw [h, cond_true] at this
  exact v_oB_L5I this (Ev.of fun m k n => rfl)
theorem C_want_no {l : List Tok} (hl : l.length ≤ 1000000) {i : Nat} (hi : i < l.length) {s : List UInt8} (h : isT s (tk l i) = false) : Cal 54 [V.one (X.ptr 0 0), V.one (X.d (D.str (bx s)))] (rds l i)
    ⟨false, V.junk, flt (tk l i), [rd l i], 0⟩ := by
  refine call54 _ _ _ ?_
  simp only [e54_eq]
  have := C_take hl hi s
  rw [h, cond_false] at this
  refine v_oB_L5I this (Ev.yes rfl ?_)
  exact u_n_L5I (C_fail hi) (Ev.of fun m k n => rfl)
theorem C_kind_yes {l : List Tok} (hl : l.length ≤ 1000000) {i : Nat} (hi : i < l.length) {κ : Int} (h : ((tk l i).kind == κ) = true) : Cal 53 [V.one (X.ptr 0 0), V.one (X.d (D.int IntKind.i64 κ))] (rds l i)
    ⟨true, kV (tk l i), D.junk, [rd l (i + 1)], 0⟩ := by
  refine call53 _ _ _ ?_
  simp only [e53_eq]
  refine v_a5ISIII_L5I (C_token hi) (Ev.of fun m k n => ?_)
  rw [show ((tk l i).kind != κ) = false by rw [bne, h]; rfl, cond_false, q53_0_eq, up hl hi]
  rfl
theorem C_kind_no {l : List Tok} {i : Nat} (hi : i < l.length) {κ : Int} (h : ((tk l i).kind == κ) = false) : Cal 53 [V.one (X.ptr 0 0), V.one (X.d (D.int IntKind.i64 κ))] (rds l i)
    ⟨false, V.junk, flt (tk l i), [rd l i], 0⟩ := by
  refine call53 _ _ _ ?_
  simp only [e53_eq]
  refine v_a5ISIII_L5I (C_token hi) ?_
  simp only [show ((tk l i).kind != κ) = true by rw [bne, h]; rfl, cond_true]
  exact u_n_L5I (C_fail hi) (Ev.of fun m k n => rfl)

/-! ### The steps -/
section
variable {α : Type} {l : List Tok} {enc : α → V} {P : (q : NT) → Nat → Rs (Ret q)}
/-- A panic is handed on. -/
abbrev PanOn (Q : Nat → Nat → Nat → D → List (List D) → Int → Option Out) : Prop := ∀ m k n d w i, Q m k n d w i = some ⟨false, V.junk, d, [[X.d (D.list 5 w), X.d (D.int IntKind.i64 i)]], 0⟩
theorem S_token {i : Nat} (hi : i < l.length) {K : Nat → Nat → Nat → Int → ByteArray → Int → Int → Int → List (List D) → Int → Option Out} {Q : Nat → Nat → Nat → D → List (List D) → Int → Option Out} {f : Tok → Pm α}
    (h : Sim l enc (fun m k n => K m k n (tk l i).kind (bx (tk l i).text) (tk l i).n (tk l i).line (tk l i).col (toks l) (Int.ofNat i)) (run P l (f (tk l i)) i)) :
    Sim l enc (fun m k n => r_a5ISIII_L5I (Ak k false 49 [V.one (X.ptr 0 0)] (rds l i)) (K m k n) (Q m k n)) (run P l (.look f) i) := fun hr => v_a5ISIII_L5I (C_token hi) (h hr)
theorem S_take (hl : l.length ≤ 1000000) {i : Nat} (hi : i < l.length) (s : List UInt8) {K : Nat → Nat → Nat → Bool → List (List D) → Int → Option Out} {Q : Nat → Nat → Nat → D → List (List D) → Int → Option Out} {y n : Pm α}
    (hy : isT s (tk l i) = true → Sim l enc (fun m k n => K m k n true (toks l) (Int.ofNat (i + 1))) (run P l y (i + 1)))
    (hn : isT s (tk l i) = false → Sim l enc (fun m k n => K m k n false (toks l) (Int.ofNat i)) (run P l n i)) :
    Sim l enc (fun m k n => r_oB_L5I (Ak k false 51 [V.one (X.ptr 0 0), V.one (X.d (D.str (bx s)))] (rds l i)) (K m k n) (Q m k n)) (run P l (Pm.take s y n) i) := by
  have hc := C_take hl hi s
  unfold run
  cases h : isT s (tk l i) with
  | true => rw [h] at hc; exact fun hr => v_oB_L5I hc (hy h hr)
  | false => rw [h] at hc; exact fun hr => v_oB_L5I hc (hn h hr)
theorem S_want (hl : l.length ≤ 1000000) {i : Nat} (hi : i < l.length) (s : List UInt8) {K : Nat → Nat → Nat → List (List D) → Int → Option Out} {Q : Nat → Nat → Nat → D → List (List D) → Int → Option Out} {y : Pm α} (hp : PanOn Q)
    (hy : isT s (tk l i) = true → Sim l enc (fun m k n => K m k n (toks l) (Int.ofNat (i + 1))) (run P l y (i + 1))) :
    Sim l enc (fun m k n => r_n_L5I (Ak k false 54 [V.one (X.ptr 0 0), V.one (X.d (D.str (bx s)))] (rds l i)) (K m k n) (Q m k n)) (run P l (Pm.want s y) i) := by
  unfold run
  cases h : isT s (tk l i) with
  | true => exact fun hr => v_n_L5I (C_want_yes hl hi h) (hy h hr)
  | false => exact fun hr => u_n_L5I (C_want_no hl hi h) (Ev.of fun m k n => hp m k n _ _ _)
theorem S_kind (hl : l.length ≤ 1000000) {i : Nat} (hi : i < l.length) (κ : Int) {K : Nat → Nat → Nat → Int → ByteArray → Int → Int → Int → List (List D) → Int → Option Out} {Q : Nat → Nat → Nat → D → List (List D) → Int → Option Out} {f : Tok → Pm α} (hp : PanOn Q)
    (hy : (tk l i).kind = κ → Sim l enc (fun m k n => K m k n (tk l i).kind (bx (tk l i).text) (tk l i).n (tk l i).line (tk l i).col (toks l) (Int.ofNat (i + 1))) (run P l (f (tk l i)) (i + 1))) :
    Sim l enc (fun m k n => r_a5ISIII_L5I (Ak k false 53 [V.one (X.ptr 0 0), V.one (X.d (D.int IntKind.i64 κ))] (rds l i)) (K m k n) (Q m k n)) (run P l (Pm.kind κ f) i) := by
  unfold run
  cases h : (tk l i).kind == κ with
  | true => exact fun hr => v_a5ISIII_L5I (C_kind_yes hl hi h) (hy (by simpa using h) hr)
  | false => exact fun hr => u_a5ISIII_L5I (C_kind_no hi h) (Ev.of fun m k n => hp m k n _ _ _)
end
end Go.Proofs.Ytbmcafehpgimfaa.Ps
