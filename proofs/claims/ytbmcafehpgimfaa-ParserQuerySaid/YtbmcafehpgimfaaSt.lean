/- The program's reader of types. -/
import Derived.Test.YtbmcafehpgimfaaSp
import Derived.Test.YtbmcafehpgimfaaGp
namespace Go.Proofs.Ytbmcafehpgimfaa.Ps
set_option linter.unusedVariables false
set_option linter.unusedSimpArgs false
open Go Go.RowKit Px
open Lx (Tok)

theorem Sim.step {α : Type} {l : List Tok} {enc : α → V} {F : Nat → Nat → Nat → Option Out} {r : Rs α} (h : Sim l enc (fun m k n => F (m + 1) k n) r) : Sim l enc F r := fun hr => (h hr).step
theorem Sim.diag {α : Type} {l : List Tok} {enc : α → V} {F : Nat → Nat → Nat → Option Out} {r : Rs α} (h : Sim l enc F r) : Sim l enc (fun m k n => F n k n) r := fun hr => (h hr).diag
theorem Sim.yes {α : Type} {l : List Tok} {enc : α → V} {F G : Nat → Nat → Nat → Option Out} {r : Rs α} {c : Bool} (hc : c = true) (h : Sim l enc F r) : Sim l enc (fun m k n => bif c then F m k n else G m k n) r := fun hr => (h hr).yes hc
theorem Sim.no {α : Type} {l : List Tok} {enc : α → V} {F G : Nat → Nat → Nat → Option Out} {r : Rs α} {c : Bool} (hc : c = false) (h : Sim l enc G r) : Sim l enc (fun m k n => bif c then F m k n else G m k n) r := fun hr => (h hr).no hc
theorem Sim.enc {α β : Type} {l : List Tok} {e : α → V} {e' : β → V} {F : Nat → Nat → Nat → Option Out} {r : Rs α} {g : α → β} (he : ∀ a, e' (g a) = e a) (h : Sim l e F r) : Sim l e' F (thenR r fun a j => .ok (g a) j) := by
  intro hr
  cases r with
  | ok a j =>
    have := h (fun q => by cases q)
    show Ev F ⟨true, e' (g a), D.junk, [rd l j], 0⟩
    rw [he]
    exact this
  | no j => exact h (fun q => by cases q)
  | out => exact absurd rfl hr
/-- A reader of the program does what the reader q does. -/
def Reads {α : Type} (l : List Tok) (f : FuncId) (enc : α → V) (R : Nat → Rs α) : Prop := ∀ i, i < l.length → Sim l enc (fun _ k _ => Ak k false f [V.one (X.ptr 0 0)] (rds l i)) (R i)
/-- The text's tokens are good and few. -/
structure Few (l : List Tok) : Prop where
  good : GoodL l
  len : l.length ≤ 1000000
theorem T.rows_app (a : List T) (b : T) : T.rows (a ++ [b]) = T.rows a ++ [[D.int IntKind.i64 b.k, D.list 2 (T.rows b.l)]] := by
  rw [T.rows_map, T.rows_map, List.map_append, List.map_singleton, T.row_eq, T.rows_map]
theorem T.rows_len (a : List T) : (T.rows a).length = a.length := by rw [T.rows_map, List.length_map]
theorem T.rows_one (a : T) : T.rows [a] = [[D.int IntKind.i64 a.k, D.list 2 (T.rows a.l)]] := T.rows_app [] a
theorem T.rows_two (a b : T) : T.rows [a, b] = [[D.int IntKind.i64 a.k, D.list 2 (T.rows a.l)], [D.int IntKind.i64 b.k, D.list 2 (T.rows b.l)]] := by
  have := T.rows_app [a] b
  rw [T.rows_one] at this
  exact this
theorem roomy (n c : Nat) (hn : n ≤ 1000000) (hc : c ≤ 1000) : Nat.ble ((n + 1) * c) 140737488355328 = true := by
  have h1 : (n + 1) * c ≤ 1000001 * 1000 := Nat.mul_le_mul (by omega) hc
  exact Nat.ble_eq_true_of_le (by omega)
section
variable {α : Type} {l : List Tok} {enc : α → V}
theorem S_T {f : FuncId} {args : List V} {rows : List (List Lf × List X)} {r : Rs T} {g : T → Nat → Rs α} {K : Nat → Nat → Nat → Int → List (List D) → List (List D) → Int → Option Out} {Q : Nat → Nat → Nat → D → List (List D) → Int → Option Out}
    (h : Sim l tV (fun _ k _ => Ak k false f args rows) r) (hp : PanOn Q)
    (hy : ∀ a j, r = .ok a j → Sim l enc (fun m k n => K m k n a.k (T.rows a.l) (toks l) (Int.ofNat j)) (g a j)) :
    Sim l enc (fun m k n => r_a2IL2_L5I (Ak k false f args rows) (K m k n) (Q m k n)) (thenR r g) := by
  cases r with
  | ok a j => exact fun hr => v_a2IL2_L5I (h (fun q => by cases q)) (hy a j rfl hr)
  | no j => exact fun hr => u_a2IL2_L5I (h (fun q => by cases q)) (Ev.of fun m k n => hp m k n _ _ _)
  | out => exact fun hr => absurd rfl hr
end
theorem typ_ok {l : List Tok} (hl : Few l) : ∀ μ i, i < l.length → l.length - i < μ → Sim l tV (fun _ k _ => Ak k false 90 [V.one (X.ptr 0 0)] (rds l i)) (pw l .typ i) ∧
    ∀ (acc : List T) z z' x2, acc.length ≤ i → Sim l tV (fun m k n => l90_0 m (Ak k) n z z' (toks l) (Int.ofNat i) x2 3 (T.rows acc)) (run (pw l) l (.call .typs fun r => .ret (T.mk 3 (acc ++ r))) i)
  | 0, i, hi, h => by omega
  | μ + 1, i, hi, h => by
    have ih := typ_ok hl μ
    have g := hl.good
    refine ⟨?_, fun acc z z' x2 ha => ?_⟩
    · rw [pw_eq g _ i hi]
      refine fun hr => call90 _ _ ((?_ : Sim l tV (fun _ k n => e90 (Ak k) n (toks l) (Int.ofNat i)) (run (pw l) l (body .typ) i)) hr)
      clear hr
      simp only [e90_eq]
      refine S_take hl.len hi wBool (fun h => Sim.yes rfl (Sim.ret fun _ _ _ => rfl)) (fun h => Sim.no rfl ?_)
      refine S_take hl.len hi wInt (fun h => Sim.yes rfl (Sim.ret fun _ _ _ => rfl)) (fun h => Sim.no rfl ?_)
      refine S_take hl.len hi wLb (fun h => Sim.yes rfl ?_) (fun h => Sim.no rfl ?_)
      · have h1 := nx g hi h
        rw [run_call]
        refine S_T (ih _ h1 (by omega)).1 (fun _ _ _ _ _ _ => rfl) fun a j hj => ?_
        have hf := pw_ok g h1 hj
        refine S_want hl.len hf.2 wRb (fun _ _ _ _ _ _ => rfl) fun h2 => Sim.ret fun _ _ _ => ?_
        unfold tV
        rw [T.k, T.l, T.rows_one]
      · simp only [q90_0_eq]
        refine S_want hl.len hi wLp (fun _ _ _ _ _ _ => rfl) fun h2 => ?_
        have h1 := nx g hi h2
        rw [run_call]
        refine S_T (ih _ h1 (by omega)).1 (fun _ _ _ _ _ _ => rfl) fun a j hj => ?_
        have hf := pw_ok g h1 hj
        refine S_want hl.len hf.2 wCm (fun _ _ _ _ _ _ => rfl) fun h3 => ?_
        have h4 := nx g hf.2 h3
        rw [run_call]
        refine S_T (ih _ h4 (by omega)).1 (fun _ _ _ _ _ _ => rfl) fun b j2 hj2 => ?_
        have hf2 := pw_ok g h4 hj2
        rw [← T.rows_two]
        exact Sim.diag ((ih j2 hf2.2 (by omega)).2 [a, b] _ _ _ (by simp only [List.length_cons, List.length_nil]; omega))
    · rw [run_open g _ _ i hi]
      refine Sim.step ?_
      simp only [l90_0_eq]
      refine S_take hl.len hi wCm (fun h => Sim.yes rfl ?_) (fun h => Sim.no rfl ?_)
      · have h1 := nx g hi h
        simp only [q90_1_eq]
        refine Eq.subst (motive := fun r => Sim l tV _ r) (run_call _ _ _).symm ?_
        refine S_T (ih _ h1 (by omega)).1 (fun _ _ _ _ _ _ => rfl) fun a j hj => ?_
        have hf := pw_ok g h1 hj
        refine Sim.yes (by rw [T.rows_len]; exact roomy _ _ (by have := hl.len; omega) (by omega)) ?_
        rw [← T.rows_app]
        have := (ih j hf.2 (by omega)).2 (acc ++ [a]) z z' x2 (by rw [List.length_append, List.length_singleton]; omega)
        simp only [List.append_assoc, List.singleton_append] at this
        exact this
      · simp only [q90_2_eq]
        refine S_want hl.len hi wRp (fun _ _ _ _ _ _ => rfl) fun h2 => Sim.ret fun _ _ _ => ?_
        rw [List.append_nil]
        rfl
end Go.Proofs.Ytbmcafehpgimfaa.Ps
