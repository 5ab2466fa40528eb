/- The program's reader of atoms; all readers of expressions, by what is left of the text. -/
import Derived.Test.YtbmcafehpgimfaaSf
namespace Go.Proofs.Ytbmcafehpgimfaa.Ps
set_option linter.unusedVariables false
set_option linter.unusedSimpArgs false
open Go Go.RowKit Px
open Lx (Tok)

section
variable {l : List Tok} {P : (q : NT) → Nat → Rs (Ret q)}
theorem S_knd {α : Type} {enc : α → V} (κ : Int) {i : Nat} {F G : Nat → Nat → Nat → Option Out} {y n : Pm α} (hy : (tk l i).kind = κ → Sim l enc F (run P l y i)) (hn : (tk l i).kind ≠ κ → Sim l enc G (run P l n i)) :
    Sim l enc (fun m k n' => bif (tk l i).kind == κ then F m k n' else G m k n') (run P l (.knd κ y n) i) := by
  unfold run
  cases h : (tk l i).kind == κ with
  | true => exact hy (by simpa using h)
  | false => exact hn (by simpa using h)
theorem ints_one (a : Int) : ints [a] = [[D.int IntKind.i64 a]] := rfl
theorem ints_app (a : List Int) (b : Int) : ints (a ++ [b]) = ints a ++ [[D.int IntKind.i64 b]] := by unfold ints; rw [List.map_append]; rfl
theorem ints_len (a : List Int) : (ints a).length = a.length := List.length_map ..
/-! ### The tuple's rest -/
theorem tuple_ok (hl : Few l) (t : Tok) (z' : List (List D)) (z3 x2 x3 : Int) (s4 : ByteArray) (x5 x6 : Int) : ∀ (d i : Nat), i < l.length → l.length - i ≤ d → After l i → ∀ acc : List E, acc.length ≤ i →
    Sim l eV (fun m k n => l94_0 m (Ak k) n z' z3 (toks l) (Int.ofNat i) x2 x3 s4 x5 x6 5 0 (bx []) (E.rows acc) t.line t.col) (run (pw l) l (.call (.rest wRp) fun r => .ret (E.mk 5 0 [] [] [] (acc ++ r) t.line t.col)) i)
  | 0, i, hi, h, _, _, _ => by omega
  | d + 1, i, hi, h, H, acc, ha => by
    have g := hl.good
    rw [run_open g _ _ i hi]
    refine Sim.step ?_
    simp only [l94_0_eq]
    refine S_take hl.len hi wCm (fun h => Sim.yes rfl ?_) (fun h => Sim.no rfl ?_)
    · have h1 := nx g hi h
      simp only [q94_2_eq]
      refine Eq.subst (motive := fun r => Sim l eV _ r) (run_call _ _ _).symm ?_
      refine S_E (H _ (by omega) h1).expr (fun _ _ _ _ _ _ => rfl) fun a j hj => ?_
      have hf := pw_ok g h1 hj
      refine Sim.yes (by rw [E.rows_len]; exact roomy _ _ (by have := hl.len; omega) (by omega)) ?_
      rw [← E.rows_app]
      have := tuple_ok hl t z' z3 x2 x3 s4 x5 x6 d j hf.2 (by omega) (fun j' h1 h2 => H j' (by omega) h2) (acc ++ [a]) (by rw [List.length_append, List.length_singleton]; omega)
      simp only [List.append_assoc, List.singleton_append] at this
      exact this
    · simp only [q94_3_eq]
      refine S_want hl.len hi wRp (fun _ _ _ _ _ _ => rfl) fun h2 => ?_
      exact S_ret (by rw [List.append_nil]) rfl rfl fun _ _ _ => rfl
/-! ### The choices of a pick -/
theorem picks_ok (hl : Few l) (t : Tok) (z' : List (List D)) (z3 x2 x3 : Int) (s4 : ByteArray) (x5 x6 : Int) : ∀ (d i : Nat), i < l.length → l.length - i ≤ d → After l i → ∀ (os : List Int) (acc : List E), acc.length ≤ i → os.length ≤ i →
    Sim l eV (fun m k n => l94_1_v1 m (Ak k) n z' z3 (toks l) (Int.ofNat i) x2 x3 s4 x5 x6 13 0 (bx []) (ints os) (E.rows acc) t.line t.col) (run (pw l) l (.call .pick fun p => .ret (E.mk 13 0 [] [] (os ++ p.1) (acc ++ p.2) t.line t.col)) i)
  | 0, i, hi, h, _, _, _, _, _ => by omega
  | d + 1, i, hi, h, H, os, acc, ha, ho => by
    have g := hl.good
    rw [run_open g _ _ i hi]
    refine Sim.step ?_
    simp only [l94_1_v1_eq]
    refine S_kind hl.len hi 3 (fun _ _ _ _ _ _ => rfl) fun h1 => ?_
    have h2 := nxk g hi h1 (by decide)
    refine Sim.yes (by rw [ints_len]; exact roomy _ _ (by have := hl.len; omega) (by omega)) ?_
    refine S_want hl.len h2 wCl (fun _ _ _ _ _ _ => rfl) fun h3 => ?_
    have h4 := nx g h2 h3
    refine Eq.subst (motive := fun r => Sim l eV _ r) (run_call _ _ _).symm ?_
    refine S_E (H _ (by omega) h4).expr (fun _ _ _ _ _ _ => rfl) fun a j hj => ?_
    have hf := pw_ok g h4 hj
    refine Sim.yes (by rw [E.rows_len]; exact roomy _ _ (by have := hl.len; omega) (by omega)) ?_
    refine S_take hl.len hf.2 wCm (fun h => Sim.no rfl ?_) (fun h => Sim.yes rfl ?_)
    · have h5 := nx g hf.2 h
      rw [← E.rows_app, ← ints_app]
      have := picks_ok hl t z' z3 x2 x3 s4 x5 x6 d (j + 1) h5 (by omega) (fun j' h1 h2 => H j' (by omega) h2) (os ++ [(tk l i).n]) (acc ++ [a]) (by rw [List.length_append, List.length_singleton]; omega) (by rw [List.length_append, List.length_singleton]; omega)
      simp only [List.append_assoc, List.singleton_append] at this
      exact this
    · refine S_want hl.len hf.2 wRc (fun _ _ _ _ _ _ => rfl) fun h2 => ?_
      exact S_ret (E.rows_app acc a).symm rfl (ints_app os _).symm fun _ _ _ => rfl
theorem pick_ok (hl : Few l) (t : Tok) (z' : List (List D)) (z3 x2 x3 : Int) (s4 : ByteArray) (x5 x6 : Int) (i : Nat) (hi : i < l.length) (H : After l i) :
    Sim l eV (fun m k n => l94_1 m (Ak k) n z' z3 (toks l) (Int.ofNat i) x2 x3 s4 x5 x6 13 0 (bx []) t.line t.col) (run (pw l) l (.call .pick fun p => .ret (E.mk 13 0 [] [] p.1 p.2 t.line t.col)) i) := by
  have g := hl.good
  rw [run_open g _ _ i hi]
  refine Sim.step ?_
  simp only [l94_1_eq]
  refine S_kind hl.len hi 3 (fun _ _ _ _ _ _ => rfl) fun h1 => ?_
  have h2 := nxk g hi h1 (by decide)
  refine S_want hl.len h2 wCl (fun _ _ _ _ _ _ => rfl) fun h3 => ?_
  have h4 := nx g h2 h3
  refine Eq.subst (motive := fun r => Sim l eV _ r) (run_call _ _ _).symm ?_
  refine S_E (H _ (by omega) h4).expr (fun _ _ _ _ _ _ => rfl) fun a j hj => ?_
  have hf := pw_ok g h4 hj
  refine S_take hl.len hf.2 wCm (fun h => Sim.no rfl ?_) (fun h => Sim.yes rfl ?_)
  · have h5 := nx g hf.2 h
    rw [← E.rows_one, ← ints_one]
    exact picks_ok hl t z' z3 x2 x3 s4 x5 x6 _ (j + 1) h5 (Nat.le_refl _) (fun j' h1 h2 => H j' (by omega) h2) [(tk l i).n] [a] (by simp only [List.length_cons, List.length_nil]; omega) (by simp only [List.length_cons, List.length_nil]; omega)
  · refine S_want hl.len hf.2 wRc (fun _ _ _ _ _ _ => rfl) fun h2 => ?_
    exact S_ret (E.rows_one a).symm rfl rfl fun _ _ _ => rfl
/-! ### An atom -/
theorem atom_ok (hl : Few l) (hn : Nums l) (i : Nat) (hi : i < l.length) (H : After l i) :
    Sim l eV (fun _ k _ => Ak k false 94 [V.one (X.ptr 0 0)] (rds l i)) (pw l .atom i) := by
  have g := hl.good
  rw [pw_eq g _ i hi]
  refine fun hr => call94 _ _ ((?_ : Sim l eV (fun _ k n => e94 (Ak k) n (toks l) (Int.ofNat i)) (run (pw l) l (body .atom) i)) hr)
  clear hr
  simp only [e94_eq]
  refine S_token hi ?_
  refine S_knd 3 (fun h => ?_) (fun h => ?_)
  · have h1 := nxk g hi h (by decide)
    refine S_begin 1 (tk l i) ?_
    rw [up hl.len hi]
    exact S_ret (P := pw l) E.rows_nil.symm rfl rfl fun _ _ _ => rfl
  refine S_knd 1 (fun h => ?_) (fun h => ?_)
  · have h1 := nxk g hi h (by decide)
    refine S_begin 3 (tk l i) ?_
    rw [up hl.len hi]
    refine S_take hl.len h1 wLp (fun h => Sim.yes rfl ?_) (fun h => Sim.no rfl ?_)
    · have h2 := nx g h1 h
      refine Eq.subst (motive := fun r => Sim l eV _ r) (run_call _ _ _).symm ?_
      refine S_L ((H _ (by omega) h2).list wRp) (fun _ _ _ _ _ _ => rfl) fun a j hj => ?_
      simp only [q94_0_eq]
      exact S_ret (P := pw l) rfl rfl rfl fun _ _ _ => rfl
    · simp only [q94_0_v1_eq]
      exact S_ret (P := pw l) E.rows_nil.symm rfl rfl fun _ _ _ => rfl
  refine S_take hl.len hi wTrue (fun h => Sim.yes rfl ?_) (fun h => Sim.no rfl ?_)
  · refine S_begin 2 (tk l i) ?_
    exact S_ret (P := pw l) E.rows_nil.symm rfl rfl fun _ _ _ => rfl
  refine S_take hl.len hi wFalse (fun h => Sim.yes rfl ?_) (fun h => Sim.no rfl ?_)
  · refine S_begin 2 (tk l i) ?_
    exact S_ret (P := pw l) E.rows_nil.symm rfl rfl fun _ _ _ => rfl
  refine S_take hl.len hi wLp (fun h => Sim.yes rfl ?_) (fun h => Sim.no rfl ?_)
  · have h1 := nx g hi h
    refine Eq.subst (motive := fun r => Sim l eV _ r) (run_call _ _ _).symm ?_
    refine S_E (H _ (by omega) h1).expr (fun _ _ _ _ _ _ => rfl) fun a j hj => ?_
    have hf := pw_ok g h1 hj
    refine S_take hl.len hf.2 wRp (fun h => Sim.yes rfl ?_) (fun h => Sim.no rfl ?_)
    · exact Sim.ret fun _ _ _ => rfl
    simp only [q94_1_eq]
    refine S_begin 5 (tk l i) ?_
    refine S_want hl.len hf.2 wCm (fun _ _ _ _ _ _ => rfl) fun h => ?_
    have h2 := nx g hf.2 h
    refine Eq.subst (motive := fun r => Sim l eV _ r) (run_call _ _ _).symm ?_
    refine S_E (H _ (by omega) h2).expr (fun _ _ _ _ _ _ => rfl) fun b j2 hj2 => ?_
    have hf2 := pw_ok g h2 hj2
    rw [← E.rows_two]
    exact Sim.diag (tuple_ok hl (tk l i) _ _ _ _ _ _ _ _ j2 hf2.2 (Nat.le_refl _) (fun j' h1 h2 => H j' (by omega) h2) [a, b] (by simp only [List.length_cons, List.length_nil]; omega))
  refine S_take hl.len hi wLb (fun h => Sim.yes rfl ?_) (fun h => Sim.no rfl ?_)
  · have h1 := nx g hi h
    refine S_begin 6 (tk l i) ?_
    refine Eq.subst (motive := fun r => Sim l eV _ r) (run_call _ _ _).symm ?_
    refine S_L ((H _ (by omega) h1).list wRb) (fun _ _ _ _ _ _ => rfl) fun a j hj => ?_
    exact S_ret (P := pw l) rfl rfl rfl fun _ _ _ => rfl
  refine S_take hl.len hi wPick (fun h => Sim.yes rfl ?_) (fun h => Sim.no rfl ?_)
  · have h1 := nx g hi h
    refine S_begin 13 (tk l i) ?_
    refine S_want hl.len h1 wLc (fun _ _ _ _ _ _ => rfl) fun h => ?_
    have h2 := nx g h1 h
    exact Sim.diag (pick_ok hl (tk l i) _ _ _ _ _ _ _ _ h2 (fun j' h1 h2 => H j' (by omega) h2))
  refine S_take hl.len hi wFlip (fun h => Sim.yes rfl ?_) (fun h => Sim.no rfl ?_)
  · have h1 := nx g hi h
    refine S_begin 14 (tk l i) ?_
    refine S_want hl.len h1 wLp (fun _ _ _ _ _ _ => rfl) fun h => ?_
    have h2 := nx g h1 h
    refine Eq.subst (motive := fun r => Sim l eV _ r) (run_call _ _ _).symm ?_
    refine S_O (share_ok hl _ h2) (fun _ _ _ _ _ _ => rfl) fun a j hj => ?_
    have hf := pw_ok g h2 hj
    refine S_want hl.len hf.2 wRp (fun _ _ _ _ _ _ => rfl) fun h => ?_
    exact S_ret (P := pw l) E.rows_nil.symm rfl rfl fun _ _ _ => rfl
  refine S_take hl.len hi wRange (fun h => Sim.yes rfl ?_) (fun h => Sim.no rfl ?_)
  · have h1 := nx g hi h
    refine S_begin 15 (tk l i) ?_
    refine S_want hl.len h1 wLp (fun _ _ _ _ _ _ => rfl) fun h => ?_
    have h2 := nx g h1 h
    refine Eq.subst (motive := fun r => Sim l eV _ r) (run_call _ _ _).symm ?_
    refine S_I (bound_ok hl hn _ h2) (fun _ _ _ _ _ _ => rfl) fun a j hj => ?_
    have hf := pw_ok g h2 hj
    refine S_want hl.len hf.2 wCm (fun _ _ _ _ _ _ => rfl) fun h => ?_
    have h3 := nx g hf.2 h
    refine Eq.subst (motive := fun r => Sim l eV _ r) (run_call _ _ _).symm ?_
    refine S_I (bound_ok hl hn _ h3) (fun _ _ _ _ _ _ => rfl) fun b j2 hj2 => ?_
    have hf2 := pw_ok g h3 hj2
    refine S_want hl.len hf2.2 wRp (fun _ _ _ _ _ _ => rfl) fun h => ?_
    exact S_ret (P := pw l) E.rows_nil.symm rfl rfl fun _ _ _ => rfl
  simp only [q94_4_eq]
  exact S_fail hi fun _ _ _ _ _ _ => rfl
/-! ### All of them -/
theorem all_ok (hl : Few l) (hn : Nums l) : ∀ (d i : Nat), i < l.length → l.length - i ≤ d → AllAt l i
  | 0, i, hi, h => by omega
  | d + 1, i, hi, h => by
    have H : After l i := fun j h1 h2 => all_ok hl hn d j h2 (by omega)
    have ha := atom_ok hl hn i hi H
    have hu := unary_ok hl i hi H ha
    have h6 := level6_ok hl i hi hu
    have h5 := level_ok hl 5 (by decide) i hi H h6
    have h4 := level_ok hl 4 (by decide) i hi H h5
    have h3 := level_ok hl 3 (by decide) i hi H h4
    have h2 := level_ok hl 2 (by decide) i hi H h3
    have h1 := level_ok hl 1 (by decide) i hi H h2
    have h0 := level_ok hl 0 (by decide) i hi H h1
    have he := expr_ok hl i hi H h0
    refine ⟨he, fun n hn => ?_, hu, ha, fun e => list_ok hl e i hi H he fun a j hj => pw_eat (q := .expr) trivial hj⟩
    match n, hn with
    | 0, _ => exact h0
    | 1, _ => exact h1
    | 2, _ => exact h2
    | 3, _ => exact h3
    | 4, _ => exact h4
    | 5, _ => exact h5
    | 6, _ => exact h6
theorem exprs_ok (hl : Few l) (hn : Nums l) (i : Nat) (hi : i < l.length) : Sim l eV (fun _ k _ => Ak k false 24 [V.one (X.ptr 0 0)] (rds l i)) (pw l .expr i) := (all_ok hl hn _ i hi (Nat.le_refl _)).expr
end
end Go.Proofs.Ytbmcafehpgimfaa.Ps
