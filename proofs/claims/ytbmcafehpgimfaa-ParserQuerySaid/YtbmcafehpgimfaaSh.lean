/- The program's readers of fields, functions and programs. -/
import Derived.Test.YtbmcafehpgimfaaSg
namespace Go.Proofs.Ytbmcafehpgimfaa.Ps
set_option linter.unusedVariables false
set_option linter.unusedSimpArgs false
open Go Go.RowKit Px
open Lx (Tok)
open Pm (want kind)

def fnV (f : Fnc) : V := V.agg [X.d (D.str (bx f.name)), X.d (D.list 5 (Fld.rows f.params)), X.d (D.int IntKind.i64 f.res.k), X.d (D.list 2 (T.rows f.res.l)), X.d (D.int IntKind.i64 f.body.k), X.d (D.int IntKind.i64 f.body.n), X.d (D.str (bx f.body.name)), X.d (D.list 1 (strs f.body.names)), X.d (D.list 1 (ints f.body.odds)), X.d (D.list 8 (E.rows f.body.kids)), X.d (D.int IntKind.i64 f.body.line), X.d (D.int IntKind.i64 f.body.col), X.d (D.int IntKind.i64 f.line), X.d (D.int IntKind.i64 f.col)]
def pX (p : Pg) : List X := [X.d (D.list 5 (Fld.rows p.inputs)), X.d (D.list 14 (Fnc.rows p.funs)), X.d (D.int IntKind.i64 p.query.k), X.d (D.int IntKind.i64 p.query.n), X.d (D.str (bx p.query.name)), X.d (D.list 1 (strs p.query.names)), X.d (D.list 1 (ints p.query.odds)), X.d (D.list 8 (E.rows p.query.kids)), X.d (D.int IntKind.i64 p.query.line), X.d (D.int IntKind.i64 p.query.col)]
def pV (p : Pg) : V := V.agg (pX p)
theorem Fld.rows_app (a : List Fld) (b : Fld) : Fld.rows (a ++ [b]) = Fld.rows a ++ [[D.str (bx b.name), D.int IntKind.i64 b.typ.k, D.list 2 (T.rows b.typ.l), D.int IntKind.i64 b.line, D.int IntKind.i64 b.col]] := by
  unfold Fld.rows; rw [List.map_append]; rfl
theorem Fld.rows_len (a : List Fld) : (Fld.rows a).length = a.length := List.length_map ..
theorem Fld.rows_one (b : Fld) : Fld.rows [b] = [[D.str (bx b.name), D.int IntKind.i64 b.typ.k, D.list 2 (T.rows b.typ.l), D.int IntKind.i64 b.line, D.int IntKind.i64 b.col]] := rfl
theorem Fnc.row_eq (f : Fnc) : Fnc.row f = [D.str (bx f.name), D.list 5 (Fld.rows f.params), D.int IntKind.i64 f.res.k, D.list 2 (T.rows f.res.l), D.int IntKind.i64 f.body.k, D.int IntKind.i64 f.body.n, D.str (bx f.body.name), D.list 1 (strs f.body.names), D.list 1 (ints f.body.odds), D.list 8 (E.rows f.body.kids), D.int IntKind.i64 f.body.line, D.int IntKind.i64 f.body.col, D.int IntKind.i64 f.line, D.int IntKind.i64 f.col] := by
  unfold Fnc.row; rw [E.row_eq]; rfl
theorem Fnc.rows_app (a : List Fnc) (f : Fnc) : Fnc.rows (a ++ [f]) = Fnc.rows a ++ [[D.str (bx f.name), D.list 5 (Fld.rows f.params), D.int IntKind.i64 f.res.k, D.list 2 (T.rows f.res.l), D.int IntKind.i64 f.body.k, D.int IntKind.i64 f.body.n, D.str (bx f.body.name), D.list 1 (strs f.body.names), D.list 1 (ints f.body.odds), D.list 8 (E.rows f.body.kids), D.int IntKind.i64 f.body.line, D.int IntKind.i64 f.body.col, D.int IntKind.i64 f.line, D.int IntKind.i64 f.col]] := by
  unfold Fnc.rows; rw [List.map_append, List.map_singleton, Fnc.row_eq]
theorem Fnc.rows_len (a : List Fnc) : (Fnc.rows a).length = a.length := List.length_map ..
section
variable {l : List Tok}
theorem S_Fn {α : Type} {enc : α → V} {f : FuncId} {args : List V} {rows : List (List Lf × List X)} {r : Rs Fnc} {g : Fnc → Nat → Rs α} {K : Nat → Nat → Nat → ByteArray → List (List D) → Int → List (List D) → Int → Int → ByteArray → List (List D) → List (List D) → List (List D) → Int → Int → Int → Int → List (List D) → Int → Option Out} {Q : Nat → Nat → Nat → D → List (List D) → Int → Option Out}
    (h : Sim l fnV (fun _ k _ => Ak k false f args rows) r) (hp : PanOn Q)
    (hy : ∀ a j, r = .ok a j → Sim l enc (fun m k n => K m k n (bx a.name) (Fld.rows a.params) a.res.k (T.rows a.res.l) a.body.k a.body.n (bx a.body.name) (strs a.body.names) (ints a.body.odds) (E.rows a.body.kids) a.body.line a.body.col a.line a.col (toks l) (Int.ofNat j)) (g a j)) :
    Sim l enc (fun m k n => r_a14SL5IL2IISL1L1L8IIII_L5I (Ak k false f args rows) (K m k n) (Q m k n)) (thenR r g) := by
  cases r with
  | ok a j => exact fun hr => v_a14SL5IL2IISL1L1L8IIII_L5I (h (fun q => by cases q)) (hy a j rfl hr)
  | no j => exact fun hr => u_a14SL5IL2IISL1L1L8IIII_L5I (h (fun q => by cases q)) (Ev.of fun m k n => hp m k n _ _ _)
  | out => exact fun hr => absurd rfl hr
theorem types_ok (hl : Few l) (i : Nat) (hi : i < l.length) : Sim l tV (fun _ k _ => Ak k false 90 [V.one (X.ptr 0 0)] (rds l i)) (pw l .typ i) := (typ_ok hl _ i hi (Nat.lt_succ_self _)).1
theorem field_ok (hl : Few l) (i : Nat) (hi : i < l.length) : Sim l fV (fun _ k _ => Ak k false 72 [V.one (X.ptr 0 0)] (rds l i)) (pw l .field i) := by
  have g := hl.good
  rw [pw_eq g _ i hi]
  refine fun hr => call72 _ _ ((?_ : Sim l fV (fun _ k n => e72 (Ak k) n (toks l) (Int.ofNat i)) (run (pw l) l (body .field) i)) hr)
  clear hr
  simp only [e72_eq]
  refine S_kind hl.len hi 1 (fun _ _ _ _ _ _ => rfl) fun h => ?_
  have h1 := nxk g hi h (by decide)
  refine S_want hl.len h1 wCl (fun _ _ _ _ _ _ => rfl) fun h => ?_
  have h2 := nx g h1 h
  refine Eq.subst (motive := fun r => Sim l fV _ r) (run_call _ _ _).symm ?_
  exact S_T (types_ok hl _ h2) (fun _ _ _ _ _ _ => rfl) fun a j hj => Sim.ret fun _ _ _ => rfl
/-! ### Functions -/
theorem is_step {α : Type} {enc : α → V} (hl : Few l) {i : Nat} (hi : i < l.length) (s : List UInt8) {K : Nat → Nat → Nat → Bool → List (List D) → Int → Option Out} {Q : Nat → Nat → Nat → D → List (List D) → Int → Option Out} {r : Rs α}
    (h : Sim l enc (fun m k n => K m k n (isT s (tk l i)) (toks l) (Int.ofNat i)) r) :
    Sim l enc (fun m k n => r_oB_L5I (Ak k false 80 [V.one (X.ptr 0 0), V.one (X.d (D.str (bx s)))] (rds l i)) (K m k n) (Q m k n)) r := fun hr => v_oB_L5I (C_is hi s) (h hr)
def heads (t : Tok) (ps : List Fld) : Pm Fnc := want wRp (funRest t ps)
theorem head_ok (hl : Few l) (hn : Nums l) (i : Nat) (hi : i < l.length) (t : Tok) (ps : List Fld) (z' : List (List D)) (z3 : Int) (s2 : ByteArray) (x3 x4 x5 : Int) (s6 : ByteArray) (x7 x8 x9 x10 x13 x14 x15 : Int) (s16 : ByteArray) (x17 x18 : Int) :
    Sim l fnV (fun _ k n => q73_1_v1 (Ak k) n z' z3 (toks l) (Int.ofNat i) s2 x3 x4 x5 s6 x7 x8 x9 x10 (bx t.text) (Fld.rows ps) x13 x14 x15 s16 x17 x18 t.line t.col) (run (pw l) l (heads t ps) i) := by
  have g := hl.good
  simp only [q73_1_v1_eq]
  unfold heads funRest
  refine S_want hl.len hi wRp (fun _ _ _ _ _ _ => rfl) fun h => ?_
  have h1 := nx g hi h
  refine S_want hl.len h1 wCl (fun _ _ _ _ _ _ => rfl) fun h => ?_
  have h2 := nx g h1 h
  refine Eq.subst (motive := fun r => Sim l fnV _ r) (run_call _ _ _).symm ?_
  refine S_T (types_ok hl _ h2) (fun _ _ _ _ _ _ => rfl) fun a j hj => ?_
  have hf := pw_ok g h2 hj
  refine S_want hl.len hf.2 wEq (fun _ _ _ _ _ _ => rfl) fun h => ?_
  have h3 := nx g hf.2 h
  refine Eq.subst (motive := fun r => Sim l fnV _ r) (run_call _ _ _).symm ?_
  refine S_E (exprs_ok hl hn _ h3) (fun _ _ _ _ _ _ => rfl) fun b j2 hj2 => ?_
  have hf2 := pw_ok g h3 hj2
  refine S_want hl.len hf2.2 wSc (fun _ _ _ _ _ _ => rfl) fun h => ?_
  exact Sim.ret (P := pw l) fun _ _ _ => rfl
theorem head0_eq (Γ : Bool → SemL) (n1 : Nat) (z2 : List (List D)) (z3 : Int) (r0 : List (List D)) (x1 : Int) (s2 : ByteArray) (x3 x4 x5 : Int) (s6 : ByteArray) (x7 x8 x9 x10 : Int) (s11 : ByteArray) (x12 x13 x14 : Int) (s15 : ByteArray) (x16 x17 x18 x19 : Int) :
    q73_1 Γ n1 z2 z3 r0 x1 s2 x3 x4 x5 s6 x7 x8 x9 x10 s11 x12 x13 x14 s15 x16 x17 x18 x19 = q73_1_v1 Γ n1 z2 z3 r0 x1 s2 x3 x4 x5 s6 x7 x8 x9 x10 s11 [] x12 x13 x14 s15 x16 x17 x18 x19 := by
  rw [q73_1_eq, q73_1_v1_eq]
theorem params_ok (hl : Few l) (hn : Nums l) (t : Tok) (z' : List (List D)) (z3 : Int) (s2 : ByteArray) (x3 x4 x5 : Int) (s6 : ByteArray) (x7 x8 x9 x10 x13 x14 x15 : Int) (s16 : ByteArray) (x17 x18 : Int) : ∀ (d i : Nat), i < l.length → l.length - i ≤ d → ∀ acc : List Fld, acc.length ≤ i →
    Sim l fnV (fun m k n => l73_0 m (Ak k) n z' z3 (toks l) (Int.ofNat i) s2 x3 x4 x5 s6 x7 x8 x9 x10 (bx t.text) (Fld.rows acc) x13 x14 x15 s16 x17 x18 t.line t.col) (run (pw l) l (.call .fields fun r => funRest t (acc ++ r)) i)
  | 0, i, hi, h, _, _ => by omega
  | d + 1, i, hi, h, acc, ha => by
    have g := hl.good
    rw [run_open g _ _ i hi]
    refine Sim.step ?_
    simp only [l73_0_eq]
    refine S_take hl.len hi wCm (fun h => Sim.yes rfl ?_) (fun h => Sim.no rfl ?_)
    · have h1 := nx g hi h
      simp only [q73_0_eq]
      refine Eq.subst (motive := fun r => Sim l fnV _ r) (run_call _ _ _).symm ?_
      refine S_F (field_ok hl _ h1) (fun _ _ _ _ _ _ => rfl) fun a j hj => ?_
      have hf := pw_ok g h1 hj
      refine Sim.yes (by rw [Fld.rows_len]; exact roomy _ _ (by have := hl.len; omega) (by omega)) ?_
      rw [← Fld.rows_app]
      have := params_ok hl hn t z' z3 s2 x3 x4 x5 s6 x7 x8 x9 x10 x13 x14 x15 s16 x17 x18 d j hf.2 (by omega) (acc ++ [a]) (by rw [List.length_append, List.length_singleton]; omega)
      simp only [List.append_assoc, List.singleton_append] at this
      exact this
    · have := head_ok hl hn i hi t acc z' z3 s2 x3 x4 x5 s6 x7 x8 x9 x10 x13 x14 x15 s16 x17 x18
      unfold heads at this
      show Sim l fnV _ (run (pw l) l (want wRp (funRest t (acc ++ []))) i)
      rw [List.append_nil]
      exact this
theorem fun_ok (hl : Few l) (hn : Nums l) (i : Nat) (hi : i < l.length) : Sim l fnV (fun _ k _ => Ak k false 73 [V.one (X.ptr 0 0)] (rds l i)) (pw l .fun_ i) := by
  have g := hl.good
  rw [pw_eq g _ i hi]
  refine fun hr => call73 _ _ ((?_ : Sim l fnV (fun _ k n => e73 (Ak k) n (toks l) (Int.ofNat i)) (run (pw l) l (body .fun_) i)) hr)
  clear hr
  simp only [e73_eq]
  refine S_kind hl.len hi 1 (fun _ _ _ _ _ _ => rfl) fun h => ?_
  have h1 := nxk g hi h (by decide)
  refine S_want hl.len h1 wLp (fun _ _ _ _ _ _ => rfl) fun h => ?_
  have h2 := nx g h1 h
  refine is_step hl h2 wRp ?_
  cases h : isT wRp (tk l (i + 1 + 1)) with
  | true =>
    refine Sim.no rfl ?_
    have e1 : run (pw l) l (Pm.take wRp (funRest (tk l i) []) (.call .field fun a => .call .fields fun r => funRest (tk l i) (a :: r))) (i + 1 + 1) = run (pw l) l (heads (tk l i) []) (i + 1 + 1) := by
      unfold heads
      rw [run, run, h]
      rfl
    refine Eq.subst (motive := fun r => Sim l fnV _ r) e1.symm ?_
    simp only [head0_eq]
    exact head_ok hl hn _ h2 (tk l i) [] _ _ _ _ _ _ _ _ _ _ _ _ _ _ _ _ _
  | false =>
    refine Sim.yes rfl ?_
    have e1 : run (pw l) l (Pm.take wRp (funRest (tk l i) []) (.call .field fun a => .call .fields fun r => funRest (tk l i) (a :: r))) (i + 1 + 1) = run (pw l) l (.call .field fun a => .call .fields fun r => funRest (tk l i) (a :: r)) (i + 1 + 1) := by
      rw [run, h]
      rfl
    refine Eq.subst (motive := fun r => Sim l fnV _ r) e1.symm ?_
    rw [run_call]
    refine S_F (field_ok hl _ h2) (fun _ _ _ _ _ _ => rfl) fun a j hj => ?_
    have hf := pw_ok g h2 hj
    rw [← Fld.rows_one]
    exact Sim.diag (params_ok hl hn (tk l i) _ _ _ _ _ _ _ _ _ _ _ _ _ _ _ _ _ _ j hf.2 (Nat.le_refl _) [a] (by simp only [List.length_cons, List.length_nil]; omega))

/-! ### Programs -/
abbrev prog2 (ins : List Fld) (fs : List Fnc) : Pm Pg := .call .expr fun q => .ret ⟨ins, fs, q⟩
theorem funs3_ok (hl : Few l) (hn : Nums l) (ins : List Fld) (z' : List (List D)) (z3 x2 x3 : Int) (s4 : ByteArray) (x5 x6 x8 x9 : Int) (s10 : ByteArray) (x11 x12 : Int) : ∀ (d i : Nat), i < l.length → l.length - i ≤ d → ∀ fs : List Fnc, fs.length ≤ i →
    Sim l pV (fun m k n => l45_1_v3 m (Ak k) n z' z3 (toks l) (Int.ofNat i) x2 x3 s4 x5 x6 (Fld.rows ins) (Fnc.rows fs) x8 x9 s10 x11 x12) (run (pw l) l (.call .funs fun b => prog2 ins (fs ++ b)) i)
  | 0, i, hi, h, _, _ => by omega
  | d + 1, i, hi, h, fs, ha => by
    have g := hl.good
    rw [run_open g _ _ i hi]
    refine Sim.step ?_
    simp only [l45_1_v3_eq]
    refine S_take hl.len hi wFun (fun h => Sim.yes rfl ?_) (fun h => Sim.no rfl ?_)
    · have h1 := nx g hi h
      simp only [q45_2_v3_eq]
      refine Eq.subst (motive := fun r => Sim l pV _ r) (run_call _ _ _).symm ?_
      refine S_Fn (fun_ok hl hn _ h1) (fun _ _ _ _ _ _ => rfl) fun a j hj => ?_
      have hf := pw_ok g h1 hj
      refine Sim.yes (by rw [Fnc.rows_len]; exact roomy _ _ (by have := hl.len; omega) (by omega)) ?_
      rw [← Fnc.rows_app]
      have := funs3_ok hl hn ins z' z3 x2 x3 s4 x5 x6 x8 x9 s10 x11 x12 d j hf.2 (by omega) (fs ++ [a]) (by rw [List.length_append, List.length_singleton]; omega)
      simp only [List.append_assoc, List.singleton_append] at this
      exact this
    · simp only [q45_3_v3_eq]
      show Sim l pV _ (run (pw l) l (prog2 ins (fs ++ [])) i)
      rw [List.append_nil]
      refine Eq.subst (motive := fun r => Sim l pV _ r) (run_call _ _ _).symm ?_
      exact S_E (exprs_ok hl hn _ hi) (fun _ _ _ _ _ _ => rfl) fun b j2 hj2 => Sim.ret fun _ _ _ => rfl
theorem funs2_ok (hl : Few l) (hn : Nums l) (ins : List Fld) (z' : List (List D)) (z3 x2 x3 : Int) (s4 : ByteArray) (x5 x6 x8 x9 : Int) (s10 : ByteArray) (x11 x12 : Int) : ∀ (d i : Nat), i < l.length → l.length - i ≤ d → ∀ fs : List Fnc, fs.length ≤ i →
    Sim l pV (fun m k n => l45_1_v2 m (Ak k) n z' z3 (toks l) (Int.ofNat i) x2 x3 s4 x5 x6 (Fnc.rows fs) x8 x9 s10 x11 x12) (run (pw l) l (.call .funs fun b => prog2 [] (fs ++ b)) i)
  | 0, i, hi, h, _, _ => by omega
  | d + 1, i, hi, h, fs, ha => by
    have g := hl.good
    rw [run_open g _ _ i hi]
    refine Sim.step ?_
    simp only [l45_1_v2_eq]
    refine S_take hl.len hi wFun (fun h => Sim.yes rfl ?_) (fun h => Sim.no rfl ?_)
    · have h1 := nx g hi h
      simp only [q45_2_v2_eq]
      refine Eq.subst (motive := fun r => Sim l pV _ r) (run_call _ _ _).symm ?_
      refine S_Fn (fun_ok hl hn _ h1) (fun _ _ _ _ _ _ => rfl) fun a j hj => ?_
      have hf := pw_ok g h1 hj
      refine Sim.yes (by rw [Fnc.rows_len]; exact roomy _ _ (by have := hl.len; omega) (by omega)) ?_
      rw [← Fnc.rows_app]
      have := funs2_ok hl hn ins z' z3 x2 x3 s4 x5 x6 x8 x9 s10 x11 x12 d j hf.2 (by omega) (fs ++ [a]) (by rw [List.length_append, List.length_singleton]; omega)
      simp only [List.append_assoc, List.singleton_append] at this
      exact this
    · simp only [q45_3_v2_eq]
      show Sim l pV _ (run (pw l) l (prog2 [] (fs ++ [])) i)
      rw [List.append_nil]
      refine Eq.subst (motive := fun r => Sim l pV _ r) (run_call _ _ _).symm ?_
      exact S_E (exprs_ok hl hn _ hi) (fun _ _ _ _ _ _ => rfl) fun b j2 hj2 => Sim.ret fun _ _ _ => rfl
theorem funs1_ok (hl : Few l) (hn : Nums l) (ins : List Fld) (z' : List (List D)) (z3 x2 x3 : Int) (s4 : ByteArray) (x5 x6 x8 x9 : Int) (s10 : ByteArray) (x11 x12 : Int) (i : Nat) (hi : i < l.length) :
    Sim l pV (fun m k n => l45_1_v1 m (Ak k) n z' z3 (toks l) (Int.ofNat i) x2 x3 s4 x5 x6 (Fld.rows ins) x8 x9 s10 x11 x12) (run (pw l) l (.call .funs fun b => prog2 ins b) i) := by
  have g := hl.good
  rw [run_open g _ _ i hi]
  refine Sim.step ?_
  simp only [l45_1_v1_eq]
  refine S_take hl.len hi wFun (fun h => Sim.yes rfl ?_) (fun h => Sim.no rfl ?_)
  · have h1 := nx g hi h
    simp only [q45_2_v1_eq]
    refine Eq.subst (motive := fun r => Sim l pV _ r) (run_call _ _ _).symm ?_
    refine S_Fn (fun_ok hl hn _ h1) (fun _ _ _ _ _ _ => rfl) fun a j hj => ?_
    have hf := pw_ok g h1 hj
    have e1 := (Fnc.rows_app [] a).symm
    rw [show Fnc.rows [] = [] from rfl, List.nil_append, List.nil_append] at e1
    rw [e1]
    exact funs3_ok hl hn ins z' z3 x2 x3 s4 x5 x6 x8 x9 s10 x11 x12 _ j hf.2 (Nat.le_refl _) [a] (by simp only [List.length_cons, List.length_nil]; omega)
  · simp only [q45_3_v1_eq]
    refine Eq.subst (motive := fun r => Sim l pV _ r) (run_call _ _ _).symm ?_
    exact S_E (exprs_ok hl hn _ hi) (fun _ _ _ _ _ _ => rfl) fun b j2 hj2 => Sim.ret fun _ _ _ => rfl
theorem funs0_ok (hl : Few l) (hn : Nums l) (ins : List Fld) (z' : List (List D)) (z3 x2 x3 : Int) (s4 : ByteArray) (x5 x6 x8 x9 : Int) (s10 : ByteArray) (x11 x12 : Int) (i : Nat) (hi : i < l.length) :
    Sim l pV (fun m k n => l45_1 m (Ak k) n z' z3 (toks l) (Int.ofNat i) x2 x3 s4 x5 x6 x8 x9 s10 x11 x12) (run (pw l) l (.call .funs fun b => prog2 [] b) i) := by
  have g := hl.good
  rw [run_open g _ _ i hi]
  refine Sim.step ?_
  simp only [l45_1_eq]
  refine S_take hl.len hi wFun (fun h => Sim.yes rfl ?_) (fun h => Sim.no rfl ?_)
  · have h1 := nx g hi h
    simp only [q45_2_eq]
    refine Eq.subst (motive := fun r => Sim l pV _ r) (run_call _ _ _).symm ?_
    refine S_Fn (fun_ok hl hn _ h1) (fun _ _ _ _ _ _ => rfl) fun a j hj => ?_
    have hf := pw_ok g h1 hj
    have e1 := (Fnc.rows_app [] a).symm
    rw [show Fnc.rows [] = [] from rfl, List.nil_append, List.nil_append] at e1
    rw [e1]
    exact funs2_ok hl hn ins z' z3 x2 x3 s4 x5 x6 x8 x9 s10 x11 x12 _ j hf.2 (Nat.le_refl _) [a] (by simp only [List.length_cons, List.length_nil]; omega)
  · simp only [q45_3_eq]
    refine Eq.subst (motive := fun r => Sim l pV _ r) (run_call _ _ _).symm ?_
    exact S_E (exprs_ok hl hn _ hi) (fun _ _ _ _ _ _ => rfl) fun b j2 hj2 => Sim.ret fun _ _ _ => rfl
theorem inputs_ok (hl : Few l) (hn : Nums l) (z' : List (List D)) (z3 x2 x3 : Int) (s4 : ByteArray) (x5 x6 x8 x9 : Int) (s10 : ByteArray) (x11 x12 : Int) : ∀ (d i : Nat), i < l.length → l.length - i ≤ d → ∀ ins : List Fld, ins.length ≤ i →
    Sim l pV (fun m k n => l45_0_v1 m (Ak k) n z' z3 (toks l) (Int.ofNat i) x2 x3 s4 x5 x6 (Fld.rows ins) x8 x9 s10 x11 x12) (run (pw l) l (.call .inputs fun a => .call .funs fun b => prog2 (ins ++ a) b) i)
  | 0, i, hi, h, _, _ => by omega
  | d + 1, i, hi, h, ins, ha => by
    have g := hl.good
    rw [run_open g _ _ i hi]
    refine Sim.step ?_
    simp only [l45_0_v1_eq]
    refine S_take hl.len hi wInput (fun h => Sim.yes rfl ?_) (fun h => Sim.no rfl ?_)
    · have h1 := nx g hi h
      simp only [q45_0_v1_eq]
      refine Eq.subst (motive := fun r => Sim l pV _ r) (run_call _ _ _).symm ?_
      refine S_F (field_ok hl _ h1) (fun _ _ _ _ _ _ => rfl) fun a j hj => ?_
      have hf := pw_ok g h1 hj
      refine Sim.yes (by rw [Fld.rows_len]; exact roomy _ _ (by have := hl.len; omega) (by omega)) ?_
      refine S_want hl.len hf.2 wSc (fun _ _ _ _ _ _ => rfl) fun h => ?_
      have h2 := nx g hf.2 h
      rw [← Fld.rows_app]
      have := inputs_ok hl hn z' z3 x2 x3 s4 x5 x6 x8 x9 s10 x11 x12 d (j + 1) h2 (by omega) (ins ++ [a]) (by rw [List.length_append, List.length_singleton]; omega)
      simp only [List.append_assoc, List.singleton_append] at this
      exact this
    · simp only [q45_1_v1_eq]
      show Sim l pV _ (run (pw l) l (.call .funs fun b => prog2 (ins ++ []) b) i)
      rw [List.append_nil]
      exact Sim.diag (funs1_ok hl hn ins z' z3 x2 x3 s4 x5 x6 x8 x9 s10 x11 x12 i hi)
theorem program_ok (hl : Few l) (hn : Nums l) (i : Nat) (hi : i < l.length) : Sim l pV (fun _ k _ => Ak k false 45 [V.one (X.ptr 0 0)] (rds l i)) (pw l .program i) := by
  have g := hl.good
  rw [pw_eq g _ i hi]
  refine fun hr => call45 _ _ ((?_ : Sim l pV (fun _ k n => e45 (Ak k) n (toks l) (Int.ofNat i)) (run (pw l) l (body .program) i)) hr)
  clear hr
  simp only [e45_eq]
  show Sim l pV _ (run (pw l) l (.call .inputs fun a => .call .funs fun b => prog2 a b) i)
  rw [run_open g _ _ i hi]
  refine Sim.diag (F := fun m k n => l45_0 m (Ak k) n (toks l) (Int.ofNat i) (toks l) (Int.ofNat i) 0 0 (ByteArray.mk #[]) 0 0 0 0 (ByteArray.mk #[]) 0 0) (Sim.step ?_)
  simp only [l45_0_eq]
  refine S_take hl.len hi wInput (fun h => Sim.yes rfl ?_) (fun h => Sim.no rfl ?_)
  · have h1 := nx g hi h
    simp only [q45_0_eq]
    refine Eq.subst (motive := fun r => Sim l pV _ r) (run_call _ _ _).symm ?_
    refine S_F (field_ok hl _ h1) (fun _ _ _ _ _ _ => rfl) fun a j hj => ?_
    have hf := pw_ok g h1 hj
    refine S_want hl.len hf.2 wSc (fun _ _ _ _ _ _ => rfl) fun h => ?_
    have h2 := nx g hf.2 h
    rw [← Fld.rows_one]
    exact inputs_ok hl hn _ _ _ _ _ _ _ _ _ _ _ _ _ (j + 1) h2 (Nat.le_refl _) [a] (by simp only [List.length_cons, List.length_nil]; omega)
  · simp only [q45_1_eq]
    exact Sim.diag (funs0_ok hl hn [] _ _ _ _ _ _ _ _ _ _ _ _ i hi)
end
end Go.Proofs.Ytbmcafehpgimfaa.Ps
