/- The limits on types and programs. Expr and Program: what they hand back. The reference's deepest and fault. The reference's deeper, fields and limits. The reference's readers of types, fields, functions and programs. The reference's lexer. What the answers tell of the readings. The reference's limits and Program. An expression is placed as itself. A program is placed as itself. The law ParserPrograms. -/
import Derived.Test.YtbmcafehpgimfaaGreatXba
import Derived.Test.YtbmcafehpgimfaaGreatPvT
import Derived.Test.YtbmcafehpgimfaaGreatVk
import Derived.Test.YtbmcafehpgimfaaGreatPvW
namespace Go.Proofs.YtbmcafehpgimfaaGreat.Ps
set_option linter.unusedVariables false
set_option linter.unusedSimpArgs false
open Go Go.RowKit Px
open Lx (Tok)

mutual
def SmallT : T → Prop
  | .mk _ l => l.length < 9223372036854775807 ∧ SmallTs l
def SmallTs : List T → Prop
  | [] => True
  | x :: r => SmallT x ∧ SmallTs r
end
theorem deepTs_step (ks : List T) (i : Nat) (h : i < ks.length) (a : Int) : deepTs (ks.drop i) a = deepTs (ks.drop (i + 1)) (big a (deepT ks[i])) := by
  rw [List.drop_eq_getElem_cons h, deepTs]
theorem L_deepT (ks : List T) (hk : ks.length < 9223372036854775807) (H : ∀ x ∈ ks, Cal 42 [tV x] [] (RV (nV (deepT x)))) : ∀ (d i : Nat) (a : Int), i ≤ ks.length → ks.length - i = d →
    Ev (fun m k z => l42_0 m (Ak k) z a (T.rows ks) (Int.ofNat ks.length) (Int.ofNat i)) (RV (nV (IntKind.wrap .i64 (deepTs (ks.drop i) a + 1)))) := by
  intro d
  induction d with
  | zero =>
    intro i a hi hd
    rw [List.drop_eq_nil_of_le (by omega), deepTs]
    refine Ev.step ?_
    simp only [l42_0_eq]
    refine Ev.no (lt_no i _ (by omega)) ?_
    simp only [q42_2_eq]
    exact Ev.ret _
  | succ d ih =>
    intro i a hi hd
    have hlt : i < ks.length := by omega
    have hat := T.rows_at ks i hlt
    rw [T.row_eq] at hat
    rw [deepTs_step ks i hlt]
    refine Ev.step ?_
    simp only [l42_0_eq]
    refine Ev.yes (lt_yes i _ hlt) ?_
    simp only [q42_0_eq, tn, hat]
    refine Ev.yes (in_range i _ (by rw [T.rows_len]; exact hlt)) ?_
    have hc := H ks[i] (List.getElem_mem hlt)
    refine v_oI hc ?_
    simp only [q42_1_eq, wrap_up i (show i < 9223372036854775807 by omega)]
    exact ih (i + 1) _ (by omega) (by omega)
mutual
theorem C_deepT : ∀ (t : T), SmallT t → Cal 42 [tV t] [] (RV (nV (deepT t)))
  | .mk k l, hs => by
    rw [SmallT] at hs
    rw [deepT_eq]
    refine call42 _ _ ?_
    simp only [e42_eq]
    have := Ev.diag (L_deepT l hs.1 (C_deepTs l hs.2) _ 0 0 (Nat.zero_le _) rfl)
    have e1 : Int.ofNat (T.rows (T.mk k l).l).length = Int.ofNat l.length := congrArg Int.ofNat (T.rows_len l)
    rw [e1]
    exact this
theorem C_deepTs : ∀ (ks : List T), SmallTs ks → ∀ x ∈ ks, Cal 42 [tV x] [] (RV (nV (deepT x)))
  | [], _, x, hx => by cases hx
  | y :: r, hs, x, hx => by
    rw [SmallTs] at hs
    rcases List.mem_cons.1 hx with h | h
    · rw [h]; exact C_deepT y hs.1
    · exact C_deepTs r hs.2 x h
end
theorem C_limT (t : T) (hs : SmallT t) (a b : Int) : Cal 41 [tV t, nV a, nV b] [] (RV (V.agg (limX (limT t a b)))) := by
  refine call41 _ _ _ _ ?_
  simp only [e41_eq]
  refine v_oI (C_deepT t hs) ?_
  unfold limT
  by_cases h : 40 < deepT t
  · rw [if_pos h]
    exact Ev.yes (decide_eq_true h) (Ev.ret _)
  · rw [if_neg h]
    exact Ev.no (decide_eq_false h) (Ev.of fun m k n => by rw [q41_0_eq]; rfl)
theorem cal_all {α : Type} {l : List α} {f : FuncId} {args : α → List V} {o : α → Out} (h : ∀ x ∈ l, Cal f (args x) [] (o x)) : ∃ K, ∀ k, K ≤ k → ∀ x ∈ l, Ak k false f (args x) [] = some (o x) := by
  induction l with
  | nil => exact ⟨0, fun _ _ x hx => by cases hx⟩
  | cons y r ih =>
    obtain ⟨K, hK⟩ := ih fun x hx => h x (List.mem_cons_of_mem _ hx)
    obtain ⟨L, hL⟩ := h y (List.mem_cons_self ..)
    refine ⟨K + L, fun k hk x hx => ?_⟩
    rcases List.mem_cons.1 hx with rfl | hx
    · exact hL k k k (by omega) (by omega) (by omega)
    · exact hK k (by omega) x hx
theorem Fld.rows_at (ks : List Fld) (i : Nat) (h : i < ks.length) : (Fld.rows ks).getD i [] = Fld.row ks[i] := by
  have : Inhabited Fld := ⟨⟨[], .mk 0 [], 0, 0⟩⟩
  unfold Fld.rows
  rw [rows_getD _ _ _ h, List.getD_eq_getElem?_getD, List.getElem?_eq_getElem h]
  rfl
theorem Fnc.rows_at (ks : List Fnc) (i : Nat) (h : i < ks.length) : (Fnc.rows ks).getD i [] = Fnc.row ks[i] := by
  have : Inhabited Fnc := ⟨⟨[], [], .mk 0 [], noE, 0, 0⟩⟩
  unfold Fnc.rows
  rw [rows_getD _ _ _ h, List.getD_eq_getElem?_getD, List.getElem?_eq_getElem h]
  rfl
theorem limFs_drop (ks : List Fld) (i : Nat) (h : i < ks.length) : limFs (ks.drop i) = match limT ks[i].typ ks[i].line ks[i].col with | some x => some x | none => limFs (ks.drop (i + 1)) := by
  rw [List.drop_eq_getElem_cons h, limFs]
  all_goals rfl
theorem limFns_drop (ks : List Fnc) (i : Nat) (h : i < ks.length) : limFns (ks.drop i) = match limFn ks[i] with | some x => some x | none => limFns (ks.drop (i + 1)) := by
  rw [List.drop_eq_getElem_cons h, limFns]
  all_goals rfl
section
variable (p : Pg) (x13 x15 x16 : Int) (s14 : ByteArray)
theorem L_params (f : Fnc) (hk : f.params.length < 9223372036854775807) (Γ : Bool → SemL) (m' n : Nat) (r0 : List (List D)) (x1 x2 : Int)
    (H : ∀ x ∈ f.params, Γ false 41 [tV x.typ, nV x.line, nV x.col] [] = some (RV (V.agg (limX (limT x.typ x.line x.col))))) : ∀ (d i : Nat), i ≤ f.params.length → f.params.length - i = d → ∀ m, d < m →
    l14_2 m Γ m' n r0 x1 x2 (D.list 5 (Fld.rows f.params)) (Int.ofNat f.params.length) (Int.ofNat i) (Fld.rows p.inputs) (Fnc.rows p.funs) p.query.k p.query.n (bx p.query.name) (strs p.query.names) (ints p.query.odds) (E.rows p.query.kids) p.query.line p.query.col x13 s14 x15 x16 (D.str (bx f.name)) (D.list 5 (Fld.rows f.params)) (D.int IntKind.i64 f.res.k) (D.list 2 (T.rows f.res.l)) (D.int IntKind.i64 f.body.k) (D.int IntKind.i64 f.body.n) (D.str (bx f.body.name)) (D.list 1 (strs f.body.names)) (D.list 1 (ints f.body.odds)) (D.list 8 (E.rows f.body.kids)) (D.int IntKind.i64 f.body.line) (D.int IntKind.i64 f.body.col) (D.int IntKind.i64 f.line) (D.int IntKind.i64 f.col) =
    match limFs (f.params.drop i) with
    | some x => some (RV (V.agg (limX (some x))))
    | none => q14_6 Γ m' n r0 x1 x2 (Fld.rows p.inputs) (Fnc.rows p.funs) p.query.k p.query.n (bx p.query.name) (strs p.query.names) (ints p.query.odds) (E.rows p.query.kids) p.query.line p.query.col x13 s14 x15 x16 (D.str (bx f.name)) (D.list 5 (Fld.rows f.params)) (D.int IntKind.i64 f.res.k) (D.list 2 (T.rows f.res.l)) (D.int IntKind.i64 f.body.k) (D.int IntKind.i64 f.body.n) (D.str (bx f.body.name)) (D.list 1 (strs f.body.names)) (D.list 1 (ints f.body.odds)) (D.list 8 (E.rows f.body.kids)) (D.int IntKind.i64 f.body.line) (D.int IntKind.i64 f.body.col) (D.int IntKind.i64 f.line) (D.int IntKind.i64 f.col) := by
  intro d
  induction d with
  | zero =>
    intro i hi hd m hm
    obtain ⟨m, rfl⟩ : ∃ m', m = m' + 1 := ⟨m - 1, by omega⟩
    rw [List.drop_eq_nil_of_le (by omega), limFs, l14_2_eq, lt_no i _ (by omega), cond_false]
  | succ d ih =>
    intro i hi hd m hm
    obtain ⟨m, rfl⟩ : ∃ m', m = m' + 1 := ⟨m - 1, by omega⟩
    have hlt : i < f.params.length := by omega
    have hat := Fld.rows_at f.params i hlt
    rw [limFs_drop _ i hlt, l14_2_eq, lt_yes i _ hlt, cond_true, q14_4_eq]
    rw [show D.rows (D.list 5 (Fld.rows f.params)) = Fld.rows f.params from rfl, show D.isList 5 (D.list 5 (Fld.rows f.params)) = true from rfl, cond_true, Fld.rows_len, in_range i _ hlt, cond_true, tn, hat]
    have hc := H f.params[i] (List.getElem_mem hlt)
    cases hx : limT f.params[i].typ f.params[i].line f.params[i].col with
    | some x =>
      obtain ⟨a, b⟩ := x
      rw [hx] at hc
      refine (congrArg (fun z => r_a4ISII z _ _) hc).trans ?_
      rfl
    | none =>
      rw [hx] at hc
      refine (congrArg (fun z => r_a4ISII z _ _) hc).trans ?_
      refine (g_a4ISII _ _ _ _ _ _).trans ?_
      show q14_5 _ _ _ _ _ _ _ _ _ _ _ _ _ _ _ _ _ _ _ _ _ _ _ _ _ _ _ _ _ _ _ _ _ _ _ _ _ _ = _
      rw [q14_5_eq, wrap_up i (by omega)]
      exact ih (i + 1) (by omega) (by omega) m (by omega)
structure SmallFn (f : Fnc) : Prop where
  len : f.params.length < 9223372036854775807
  typ : ∀ x ∈ f.params, SmallT x.typ
  res : SmallT f.res
  body : SmallE f.body
structure SmallP (p : Pg) : Prop where
  ilen : p.inputs.length < 9223372036854775807
  ityp : ∀ x ∈ p.inputs, SmallT x.typ
  flen : p.funs.length < 9223372036854775807
  fn : ∀ f ∈ p.funs, SmallFn f
  query : SmallE p.query
theorem L_funs (fs : List Fnc) (hk : fs.length < 9223372036854775807) (hs : ∀ f ∈ fs, SmallFn f) (hq : SmallE p.query) : ∀ (d i : Nat), i ≤ fs.length → fs.length - i = d →
    Ev (fun m k n => l14_1 m (Ak k) n (Fnc.rows fs) (Int.ofNat fs.length) (Int.ofNat i) (Fld.rows p.inputs) (Fnc.rows p.funs) p.query.k p.query.n (bx p.query.name) (strs p.query.names) (ints p.query.odds) (E.rows p.query.kids) p.query.line p.query.col x13 s14 x15 x16)
      (RV (V.agg (limX (match limFns (fs.drop i) with | some x => some x | none => limE p.query)))) := by
  intro d
  induction d with
  | zero =>
    intro i hi hd
    rw [List.drop_eq_nil_of_le (by omega), limFns]
    refine Ev.step ?_
    simp only [l14_1_eq]
    refine Ev.no (lt_no i _ (by omega)) ?_
    simp only [q14_9_eq]
    have h := C_limit p.query hq
    cases hx : limE p.query with
    | none => rw [hx] at h; exact v_a4ISII h (Ev.ret _)
    | some x => obtain ⟨a, b⟩ := x; rw [hx] at h; exact v_a4ISII h (Ev.ret _)
  | succ d ih =>
    intro i hi hd
    have hlt : i < fs.length := by omega
    have hat := Fnc.rows_at fs i hlt
    rw [Fnc.row_eq] at hat
    rw [limFns_drop _ i hlt]
    refine Ev.step ?_
    simp only [l14_1_eq]
    refine Ev.yes (lt_yes i _ hlt) ?_
    simp only [q14_3_eq, tn, hat]
    refine Ev.yes (in_range i _ (by rw [Fnc.rows_len]; exact hlt)) ?_
    refine Ev.yes rfl ?_
    have hf := hs fs[i] (List.getElem_mem hlt)
    have next := ih (i + 1) (by omega) (by omega)
    generalize fs[i] = f at hf
    have e1 : Int.ofNat (D.rows (List.getD [D.str (bx f.name), D.list 5 (Fld.rows f.params), D.int IntKind.i64 f.res.k, D.list 2 (T.rows f.res.l), D.int IntKind.i64 f.body.k, D.int IntKind.i64 f.body.n, D.str (bx f.body.name), D.list 1 (strs f.body.names), D.list 1 (ints f.body.odds), D.list 8 (E.rows f.body.kids), D.int IntKind.i64 f.body.line, D.int IntKind.i64 f.body.col, D.int IntKind.i64 f.line, D.int IntKind.i64 f.col] 1 D.junk)).length = Int.ofNat f.params.length := congrArg Int.ofNat (Fld.rows_len _)
    rw [e1]
    obtain ⟨K, hK⟩ := cal_all (l := f.params) (f := 41) (args := fun x => [tV x.typ, nV x.line, nV x.col]) (o := fun x => RV (V.agg (limX (limT x.typ x.line x.col)))) fun x hx => C_limT x.typ (hf.typ x hx) _ _
    unfold limFn
    cases hp : limFs f.params with
    | some x =>
      refine ⟨K + f.params.length + 1, fun m k n h1 h2 h3 => ?_⟩
      refine (L_params p x13 x15 x16 s14 f hf.len (Ak k) m n (Fnc.rows fs) (Int.ofNat fs.length) (Int.ofNat i) (hK k (by omega)) f.params.length 0 (Nat.zero_le _) rfl m (by omega)).trans ?_
      rw [List.drop_zero, hp]
    | none =>
      have tail : Ev (fun m k n => q14_6 (Ak k) m n (Fnc.rows fs) (Int.ofNat fs.length) (Int.ofNat i) (Fld.rows p.inputs) (Fnc.rows p.funs) p.query.k p.query.n (bx p.query.name) (strs p.query.names) (ints p.query.odds) (E.rows p.query.kids) p.query.line p.query.col x13 s14 x15 x16 (D.str (bx f.name)) (D.list 5 (Fld.rows f.params)) (D.int IntKind.i64 f.res.k) (D.list 2 (T.rows f.res.l)) (D.int IntKind.i64 f.body.k) (D.int IntKind.i64 f.body.n) (D.str (bx f.body.name)) (D.list 1 (strs f.body.names)) (D.list 1 (ints f.body.odds)) (D.list 8 (E.rows f.body.kids)) (D.int IntKind.i64 f.body.line) (D.int IntKind.i64 f.body.col) (D.int IntKind.i64 f.line) (D.int IntKind.i64 f.col))
          (RV (V.agg (limX (match (match limT f.res f.line f.col with | some x => some x | none => limE f.body) with | some x => some x | none => match limFns (fs.drop (i + 1)) with | some x => some x | none => limE p.query)))) := by
        simp only [q14_6_eq]
        have h := C_limT f.res hf.res f.line f.col
        cases hr : limT f.res f.line f.col with
        | some x =>
          obtain ⟨a, b⟩ := x
          rw [hr] at h
          exact v_a4ISII h (Ev.yes rfl (Ev.ret _))
        | none =>
          rw [hr] at h
          refine v_a4ISII h (Ev.no rfl ?_)
          simp only [q14_7_eq]
          have h2 := C_limit f.body hf.body
          cases hb : limE f.body with
          | some x =>
            obtain ⟨a, b⟩ := x
            rw [hb] at h2
            exact v_a4ISII h2 (Ev.yes rfl (Ev.ret _))
          | none =>
            rw [hb] at h2
            refine v_a4ISII h2 (Ev.no rfl ?_)
            simp only [q14_8_eq, wrap_up i (show i < 9223372036854775807 by omega)]
            exact next
      obtain ⟨L, hL⟩ := tail
      refine ⟨K + L + f.params.length + 1, fun m k n h1 h2 h3 => ?_⟩
      refine (L_params p x13 x15 x16 s14 f hf.len (Ak k) m n (Fnc.rows fs) (Int.ofNat fs.length) (Int.ofNat i) (hK k (by omega)) f.params.length 0 (Nat.zero_le _) rfl m (by omega)).trans ?_
      rw [List.drop_zero, hp]
      refine (hL m k n (by omega) (by omega) (by omega)).trans ?_
      clear hL
      cases limT f.res f.line f.col with
      | some x => rfl
      | none => cases limE f.body <;> rfl
theorem L_inputs (hs : SmallP p) : ∀ (d i : Nat), i ≤ p.inputs.length → p.inputs.length - i = d →
    Ev (fun m k n => l14_0 m (Ak k) n (Fld.rows p.inputs) (Int.ofNat p.inputs.length) (Int.ofNat i) (Fld.rows p.inputs) (Fnc.rows p.funs) p.query.k p.query.n (bx p.query.name) (strs p.query.names) (ints p.query.odds) (E.rows p.query.kids) p.query.line p.query.col x13 s14 x15 x16)
      (RV (V.agg (limX (match limFs (p.inputs.drop i) with | some x => some x | none => match limFns p.funs with | some x => some x | none => limE p.query)))) := by
  intro d
  induction d with
  | zero =>
    intro i hi hd
    rw [List.drop_eq_nil_of_le (by omega), limFs]
    refine Ev.step ?_
    simp only [l14_0_eq]
    refine Ev.no (lt_no i _ (by omega)) ?_
    simp only [q14_2_eq, Fnc.rows_len]
    exact Ev.diag (L_funs p _ _ _ _ p.funs hs.flen hs.fn hs.query _ 0 (Nat.zero_le _) rfl)
  | succ d ih =>
    intro i hi hd
    have hlt : i < p.inputs.length := by omega
    have hat := Fld.rows_at p.inputs i hlt
    rw [limFs_drop _ i hlt]
    refine Ev.step ?_
    simp only [l14_0_eq]
    refine Ev.yes (lt_yes i _ hlt) ?_
    simp only [q14_0_eq, tn, hat]
    refine Ev.yes (in_range i _ (by rw [Fld.rows_len]; exact hlt)) ?_
    have h := C_limT p.inputs[i].typ (hs.ityp _ (List.getElem_mem hlt)) p.inputs[i].line p.inputs[i].col
    cases hr : limT p.inputs[i].typ p.inputs[i].line p.inputs[i].col with
    | some x =>
      obtain ⟨a, b⟩ := x
      rw [hr] at h
      exact v_a4ISII h (Ev.yes rfl (Ev.ret _))
    | none =>
      rw [hr] at h
      refine v_a4ISII h (Ev.no rfl ?_)
      have := hs.ilen
      simp only [q14_1_eq, wrap_up i (show i < 9223372036854775807 by omega)]
      exact ih (i + 1) (by omega) (by omega)
end
theorem C_limits (p : Pg) (hs : SmallP p) : Cal 14 [pV p] [] (RV (V.agg (limX (limP p)))) := by
  refine call14 _ _ _ _ _ _ _ _ _ _ ?_
  simp only [e14_eq, Fld.rows_len]
  exact Ev.diag (L_inputs p _ _ _ _ hs _ 0 (Nat.zero_le _) rfl)
end Go.Proofs.YtbmcafehpgimfaaGreat.Ps
namespace Go.Proofs.YtbmcafehpgimfaaGreat.Ps
set_option linter.unusedVariables false
set_option linter.unusedSimpArgs false
open Go Go.RowKit Px
open Lx (Tok tok scan sm dg nm sgn val isWord ws nnl Flt)

theorem wEs_len : ∀ l : List E, l.length ≤ wEs l
  | [] => by rw [wEs]; exact Nat.le_refl _
  | x :: r => by
    have := wEs_len r
    have := wE_pos x
    rw [wEs, List.length_cons]
    omega
mutual
theorem small_E : ∀ e : E, wE e < 9223372036854775807 → SmallE e
  | .mk k n s ns os ks a b, h => by
    rw [wE] at h
    rw [SmallE]
    have := wEs_len ks
    exact ⟨by omega, small_Es ks (by omega)⟩
theorem small_Es : ∀ l : List E, wEs l < 9223372036854775807 → SmallEs l
  | [], _ => by rw [SmallEs]; trivial
  | x :: r, h => by
    rw [wEs] at h
    rw [SmallEs]
    exact ⟨small_E x (by omega), small_Es r (by omega)⟩
end
theorem wT_pos (t : T) : 1 ≤ wT t := by cases t; rw [wT]; omega
theorem wTs_len : ∀ l : List T, l.length ≤ wTs l
  | [] => by rw [wTs]; exact Nat.le_refl _
  | x :: r => by
    have := wTs_len r
    have := wT_pos x
    rw [wTs, List.length_cons]
    omega
mutual
theorem small_T : ∀ t : T, wT t < 9223372036854775807 → SmallT t
  | .mk k l, h => by
    rw [wT] at h
    rw [SmallT]
    have := wTs_len l
    exact ⟨by omega, small_Ts l (by omega)⟩
theorem small_Ts : ∀ l : List T, wTs l < 9223372036854775807 → SmallTs l
  | [], _ => by rw [SmallTs]; trivial
  | x :: r, h => by
    rw [wTs] at h
    rw [SmallTs]
    exact ⟨small_T x (by omega), small_Ts r (by omega)⟩
end
theorem wFs_len : ∀ l : List Fld, l.length ≤ wFs l
  | [] => Nat.le_refl _
  | x :: r => by
    have := wFs_len r
    have := wT_pos x.typ
    rw [wFs, List.length_cons, wF]
    omega
theorem wFs_mem : ∀ (l : List Fld) (x : Fld), x ∈ l → wT x.typ ≤ wFs l
  | y :: r, x, h => by
    rw [wFs]
    rcases List.mem_cons.1 h with rfl | h
    · rw [wF]; omega
    · have := wFs_mem r x h; omega
theorem wFns_len : ∀ l : List Fnc, l.length ≤ wFns l
  | [] => Nat.le_refl _
  | x :: r => by
    have := wFns_len r
    rw [wFns, List.length_cons, wFn]
    omega
theorem wFns_mem : ∀ (l : List Fnc) (x : Fnc), x ∈ l → wFn x ≤ wFns l
  | y :: r, x, h => by
    rw [wFns]
    rcases List.mem_cons.1 h with rfl | h
    · omega
    · have := wFns_mem r x h; omega
theorem small_P (p : Pg) (h : wFs p.inputs + wFns p.funs + wE p.query < 9223372036854775807) : SmallP p where
  ilen := by have := wFs_len p.inputs; omega
  ityp := fun x hx => small_T _ (by have := wFs_mem _ x hx; omega)
  flen := by have := wFns_len p.funs; omega
  fn := fun f hf => by
    have := wFns_mem _ f hf
    rw [wFn] at this
    exact ⟨by have := wFs_len f.params; omega, fun x hx => small_T _ (by have := wFs_mem _ x hx; omega), small_T _ (by omega), small_E _ (by omega)⟩
  query := small_E _ (by omega)
def okF : Flt := ⟨0, [], 0, 0⟩
def limF (x : Int × Int) : Flt := ⟨2, [], x.1, x.2⟩
def exprL (l : List Tok) : E × Flt :=
  match wholeE l with
  | .ok a _ => match limE a with
    | none => (a, okF)
    | some x => (noE, limF x)
  | .no j => (noE, tokF (tk l j))
  | .out => (noE, okF)
def exprF (s : List UInt8) : E × Flt :=
  if 20000 < s.length then (noE, limF (0, 0)) else
  match scan s 1 1 with
  | .error g => (noE, g)
  | .ok l => exprL l
abbrev PXl : List Lf := [Lf.lst 5, Lf.lst 14, Lf.int IntKind.i64, Lf.int IntKind.i64, Lf.str, Lf.lst 1, Lf.lst 1, Lf.lst 8, Lf.int IntKind.i64, Lf.int IntKind.i64]
def noP : Pg := ⟨[], [], noE⟩
def wholeP (l : List Tok) : Rs Pg := run (pw l) l (.call .program fun e => .knd 5 (.ret e) .fail) 0
theorem C_litP (l : List Tok) (hl : Few l) (hn : Nums l) (i : Nat) (hi : i < l.length) (e0 : Pg) :
    Cal 12 [V.one (X.ptr 0 0), V.one (X.ptr 1 0)] [(RD, rd l i), (PXl, pX e0)] (match pw l .program i with
      | .ok a j => ⟨true, V.tup [], D.junk, [rd l j, pX a], 0⟩
      | .no j => ⟨false, V.junk, flt (tk l j), [rd l j, pX e0], 0⟩
      | .out => ⟨true, V.junk, D.junk, [], 0⟩) := by
  have h := program_ok hl hn i hi (pw_ends hl.good _ i hi)
  refine call12 _ _ _ _ _ _ _ _ _ _ _ _ ?_
  simp only [e12_eq]
  cases hp : pw l .program i with
  | ok a j =>
    rw [hp] at h
    exact v_a10L5L14IISL1L1L8II_L5I h (Ev.ret _)
  | no j =>
    rw [hp] at h
    exact u_a10L5L14IISL1L1L8II_L5I h (Ev.ret _)
  | out => exact absurd hp (pw_ends hl.good _ i hi)
def ReadOutP (s : List UInt8) (f : List X) (e : Pg) : Prop :=
  if 20000 < s.length then f = [iX 2, sX [], iX 0, iX 0] ∧ e = noP else
  match scan s 1 1 with
  | .error g => f = fltX g ∧ e = noP
  | .ok l => match wholeP l with
    | .ok a _ => f = fine ∧ e = a
    | .no j => f = fltX (tokF (tk l j))
    | .out => False
theorem C_read2 (s : List UInt8) : ∃ f e, ReadOutP s f e ∧ Cal 11 [V.one (X.d (D.str (bx s))), V.one (X.fn 12 [X.ptr 0 0])] [(PXl, pX noP)] ⟨true, V.agg f, D.junk, [pX e], 0⟩ := by
  have ht := C_tokens s
  by_cases hs : 20000 < s.length
  · rw [if_pos hs] at ht
    refine ⟨_, _, by unfold ReadOutP; rw [if_pos hs]; exact ⟨rfl, rfl⟩, ?_⟩
    refine call11f12 _ _ _ _ _ _ _ _ _ _ _ ?_
    simp only [e11f12_eq]
    exact v_t2oL5a4ISII ht (Ev.yes rfl (Ev.ret _))
  rw [if_neg hs] at ht
  unfold ReadOutP
  simp only [if_neg hs]
  cases hsc : scan s 1 1 with
  | error g =>
    rw [hsc] at ht
    refine ⟨_, _, ⟨rfl, rfl⟩, ?_⟩
    refine call11f12 _ _ _ _ _ _ _ _ _ _ _ ?_
    simp only [e11f12_eq]
    have tl : tokOut [] (.error g) = V.tup [V.one (X.d (D.list 5 [])), V.agg (fltX g)] := rfl
    rw [tl] at ht
    exact v_t2oL5a4ISII ht (Ev.yes (by simpa using scan_bad _ s 1 1 g (Nat.lt_succ_self _) hsc) (Ev.ret _))
  | ok l =>
    rw [hsc] at ht
    have hfew := scan_few (by omega) hsc
    have h0 := hfew.2.2
    have hlit := C_litP l hfew.1 hfew.2.1 0 h0 noP
    have tl : tokOut [] (.ok l) = V.tup [V.one (X.d (D.list 5 (toks l))), V.agg fine] := rfl
    rw [tl] at ht
    simp only
    have e0 : wholeP l = thenR (pw l .program 0) fun e j => run (pw l) l (.knd 5 (.ret e) .fail) j := run_call _ _ _
    rw [e0]
    cases hp : pw l .program 0 with
    | out => exact absurd hp (pw_ends hfew.1.good _ 0 h0)
    | no j =>
      rw [hp] at hlit
      refine ⟨_, noP, rfl, ?_⟩
      refine call11f12 _ _ _ _ _ _ _ _ _ _ _ ?_
      simp only [e11f12_eq]
      refine v_t2oL5a4ISII ht (Ev.no rfl ?_)
      simp only [q11_0_eq]
      exact u_n_L5I_L5L14IISL1L1L8II hlit (Ev.of fun m k n => rfl)
    | ok a j =>
      rw [hp] at hlit
      have hf := pw_ok hfew.1.good h0 hp
      have ht2 := C_token hf.2
      show ∃ f e, (match run (pw l) l (.knd 5 (.ret a) .fail) j with
        | .ok a _ => f = fine ∧ e = a
        | .no j => f = fltX (tokF (tk l j))
        | .out => False) ∧ _
      rw [run]
      cases hk : (tk l j).kind == 5 with
      | true =>
        refine ⟨_, a, ⟨rfl, rfl⟩, ?_⟩
        refine call11f12 _ _ _ _ _ _ _ _ _ _ _ ?_
        simp only [e11f12_eq]
        refine v_t2oL5a4ISII ht (Ev.no rfl ?_)
        simp only [q11_0_eq, q11_1_eq]
        exact v_n_L5I_L5L14IISL1L1L8II hlit (v_a5ISIII_L5I ht2 (Ev.no (by rw [bne, hk]; rfl) (Ev.ret _)))
      | false =>
        refine ⟨_, a, rfl, ?_⟩
        refine call11f12 _ _ _ _ _ _ _ _ _ _ _ ?_
        simp only [e11f12_eq]
        refine v_t2oL5a4ISII ht (Ev.no rfl ?_)
        simp only [q11_0_eq]
        exact v_n_L5I_L5L14IISL1L1L8II hlit (v_a5ISIII_L5I ht2 (Ev.yes (by rw [bne, hk]; rfl) (u_n_L5I (C_fail hf.2) (Ev.of fun m k n => rfl))))
def progL_ (l : List Tok) : Pg × Flt :=
  match wholeP l with
  | .ok a _ => match limP a with
    | none => (a, okF)
    | some x => (noP, limF x)
  | .no j => (noP, tokF (tk l j))
  | .out => (noP, okF)
def progF (s : List UInt8) : Pg × Flt :=
  if 20000 < s.length then (noP, limF (0, 0)) else
  match scan s 1 1 with
  | .error g => (noP, g)
  | .ok l => progL_ l
theorem C_Program (s : List UInt8) : Cal 5 [V.one (X.d (D.str (bx s)))] [] (RV (V.tup [pV (progF s).1, V.agg (fltX (progF s).2)])) := by
  obtain ⟨f, e, ho, hc⟩ := C_read2 s
  refine call5 _ ?_
  simp only [e5_eq]
  unfold ReadOutP at ho
  unfold progF
  by_cases hs : 20000 < s.length
  · rw [if_pos hs] at ho ⊢
    obtain ⟨rfl, rfl⟩ := ho
    refine v_a4ISII_L5L14IISL1L1L8II hc (Ev.no rfl ?_)
    simp only [q5_0_eq]
    exact Ev.yes rfl (Ev.of fun m k n => by unfold pV pX noP noE; simp only [E.kids, E.rows_nil]; rfl)
  rw [if_neg hs] at ho ⊢
  cases hsc : scan s 1 1 with
  | error g =>
    rw [hsc] at ho
    obtain ⟨rfl, rfl⟩ := ho
    have hb := scan_bad _ s 1 1 g (Nat.lt_succ_self _) hsc
    refine v_a4ISII_L5L14IISL1L1L8II hc (Ev.no (by simpa using hb) ?_)
    simp only [q5_0_eq]
    exact Ev.yes (by simpa using hb) (Ev.of fun m k n => by unfold pV pX noP noE; simp only [E.kids, E.rows_nil]; rfl)
  | ok l =>
    rw [hsc] at ho
    have hfew := scan_few (by omega) hsc
    show Ev _ (RV (V.tup [pV (progL_ l).1, V.agg (fltX (progL_ l).2)]))
    unfold progL_
    simp only at ho
    cases hw : wholeP l with
    | out => rw [hw] at ho; exact ho.elim
    | no j =>
      rw [hw] at ho
      simp only at ho
      subst ho
      refine v_a4ISII_L5L14IISL1L1L8II hc (Ev.no rfl ?_)
      simp only [q5_0_eq]
      exact Ev.yes rfl (Ev.of fun m k n => by unfold pV pX noP noE; simp only [E.kids, E.rows_nil]; rfl)
    | ok a j =>
      rw [hw] at ho
      obtain ⟨rfl, rfl⟩ := ho
      have hsm : SmallP e := by
        have h2 : wholeP l = thenR (pw l .program 0) fun e j => run (pw l) l (.knd 5 (.ret e) .fail) j := run_call _ _ _
        rw [h2] at hw
        cases hp : pw l .program 0 with
        | out => rw [hp] at hw; cases hw
        | no k => rw [hp] at hw; cases hw
        | ok b k =>
          rw [hp] at hw
          have h3 := pw_wt hp
          have h4 := (pw_ok hfew.1.good hfew.2.2 hp).2
          have h5 := hfew.1.len
          have : b = e := by
            replace hw : run (pw l) l (.knd 5 (.ret b) .fail) k = .ok e j := hw
            rw [run] at hw
            cases hk : (tk l k).kind == 5 with
            | true => rw [hk] at hw; cases hw; rfl
            | false => rw [hk] at hw; cases hw
          subst this
          refine small_P b ?_
          have h6 : wFs b.inputs + wFns b.funs + wE b.query + 0 ≤ 0 + k := h3
          omega
      have hl := C_limits e hsm
      refine v_a4ISII_L5L14IISL1L1L8II hc (Ev.yes rfl ?_)
      simp only
      cases hx : limP e with
      | none =>
        rw [hx] at hl
        refine v_a4ISII hl ?_
        simp only [q5_0_eq, q5_1_eq]
        exact Ev.no rfl (Ev.ret _)
      | some x =>
        rw [hx] at hl
        refine v_a4ISII hl ?_
        simp only [q5_0_eq]
        exact Ev.yes rfl (Ev.of fun m k n => by unfold pV pX noP noE; simp only [E.kids, E.rows_nil]; rfl)
end Go.Proofs.YtbmcafehpgimfaaGreat.Ps
namespace Go.Proofs.YtbmcafehpgimfaaGreat.Ps
set_option linter.unusedVariables false
set_option linter.unusedSimpArgs false
open Go Go.RowKit Px
open Lx (Tok scan Flt)

def deepR : Option E → V
  | some e => V.tup [V.agg [iX 2, sX [], iX e.line, iX e.col], V.one (bX true)]
  | none => V.tup [V.agg fine, V.one (bX false)]
theorem L_rdeep (e : E) (hk : e.kids.length < 9223372036854775807) (n : Nat) (hn : n ≤ 40) (H : ∀ x ∈ e.kids, Cal 52 [eV x, nV (Int.ofNat n)] [] (RV (deepR (deepE x n)))) (x4 : Int) (s5 : ByteArray) (x6 x7 : Int) : ∀ (d i : Nat), i ≤ e.kids.length → e.kids.length - i = d →
    Ev (fun m k z => l52_0 m (Ak k) z (Int.ofNat n + 1) (Int.ofNat i) e.k e.n (bx e.name) (strs e.names) (ints e.odds) (E.rows e.kids) e.line e.col x4 s5 x6 x7) (RV (deepR (deepEs (e.kids.drop i) n))) := by
  intro d
  induction d with
  | zero =>
    intro i hi hd
    rw [List.drop_eq_nil_of_le (by omega), deepEs]
    refine Ev.step ?_
    simp only [l52_0_eq, E.rows_len]
    exact Ev.no (lt_no i _ (by omega)) (Ev.of fun m k z => by rw [q52_3_eq]; rfl)
  | succ d ih =>
    intro i hi hd
    have hlt : i < e.kids.length := by omega
    have hat := E.rows_at e.kids i hlt
    rw [E.row_eq] at hat
    rw [List.drop_eq_getElem_cons hlt, deepEs]
    refine Ev.step ?_
    simp only [l52_0_eq, E.rows_len]
    refine Ev.yes (lt_yes i _ hlt) ?_
    simp only [q52_1_eq, tn, hat]
    refine Ev.yes (in_range i _ (by rw [E.rows_len]; exact hlt)) ?_
    have hw : IntKind.wrap .i64 (Int.ofNat n + 1 - 1) = Int.ofNat n := by rw [wrap_in _ (by simp only [Int.ofNat_eq_natCast]; omega) (by simp only [Int.ofNat_eq_natCast]; omega)]; omega
    rw [hw]
    have hc := H e.kids[i] (List.getElem_mem hlt)
    cases hx : deepE e.kids[i] n with
    | some y =>
      rw [hx] at hc
      exact v_t2a4ISIIoB hc (Ev.yes rfl (Ev.ret _))
    | none =>
      rw [hx] at hc
      refine v_t2a4ISIIoB hc (Ev.no rfl ?_)
      simp only [q52_2_eq, wrap_up i (by omega)]
      exact ih (i + 1) (by omega) (by omega)
mutual
theorem C_rdeep : ∀ (e : E), SmallE e → ∀ n : Nat, n ≤ 40 → Cal 52 [eV e, nV (Int.ofNat n)] [] (RV (deepR (deepE e n)))
  | .mk k c s ns os ks a b, h, 0, hn => by
    refine call52 _ _ _ _ _ _ _ _ _ ?_
    rw [deepE_zero]
    simp only [e52_eq]
    exact Ev.yes rfl (Ev.ret _)
  | .mk k c s ns os ks a b, h, n + 1, hn => by
    rw [SmallE] at h
    have H := C_rdeeps ks h.2 n (by omega)
    refine call52 _ _ _ _ _ _ _ _ _ ?_
    rw [deepE_succ]
    simp only [e52_eq]
    refine Ev.no (decide_eq_false (by simp only [Int.ofNat_eq_natCast]; omega)) ?_
    simp only [q52_0_eq]
    have := L_rdeep (.mk k c s ns os ks a b) h.1 n (by omega) H 0 (ByteArray.mk #[]) 0 0 _ 0 (Nat.zero_le _) rfl
    exact Ev.diag this
theorem C_rdeeps : ∀ (ks : List E), SmallEs ks → ∀ n : Nat, n ≤ 40 → ∀ x ∈ ks, Cal 52 [eV x, nV (Int.ofNat n)] [] (RV (deepR (deepE x n)))
  | [], _, _, _, x, hx => by cases hx
  | z :: r, hs, n, hn, x, hx => by
    rw [SmallEs] at hs
    rcases List.mem_cons.1 hx with h | h
    · rw [h]; exact C_rdeep z hs.1 n hn
    · exact C_rdeeps r hs.2 n hn x h
end
theorem C_rfault {l : List Tok} {i : Nat} (hi : i < l.length) (b : Bool) : Cal 17 [P0] (rbs l i b) (ro (V.agg (fltX (tokF (tk l i)))) l i b) := by
  refine call17 _ _ _ (Ev.of fun m k n => ?_)
  rw [e17_eq, toks_len, in_range i _ hi, cond_true, tn, toks_at l i hi]
  rfl

mutual
def over : T → Nat → Bool
  | _, 0 => true
  | .mk _ l, n + 1 => overs l n
def overs : List T → Nat → Bool
  | [], _ => false
  | x :: r, n => over x n || overs r n
end
theorem over_zero (t : T) : over t 0 = true := by cases t; rw [over]
mutual
theorem deepT_in : ∀ t : T, wT t < 9223372036854775807 → deepT t = deepTs t.l 0 + 1 ∧ 1 ≤ deepT t ∧ deepT t ≤ wT t
  | .mk k l, h => by
    rw [wT] at h
    obtain ⟨h1, h2⟩ := deepTs_in l (by omega) 0 (Int.le_refl _)
    have e : deepT (.mk k l) = deepTs l 0 + 1 := by
      rw [deepT]
      exact wrap_in _ (by omega) (by omega)
    rw [e, wT]
    exact ⟨rfl, by omega, by omega⟩
theorem deepTs_in : ∀ l : List T, wTs l < 9223372036854775807 → ∀ a : Int, 0 ≤ a → a ≤ deepTs l a ∧ deepTs l a ≤ a + wTs l
  | [], _, a, ha => by rw [deepTs, wTs]; omega
  | x :: r, h, a, ha => by
    rw [wTs] at h
    obtain ⟨_, h1, h2⟩ := deepT_in x (by omega)
    have h3 := deepTs_in r (by omega) (big a (deepT x)) (by unfold big; split <;> omega)
    rw [deepTs, wTs]
    unfold big at h3 ⊢
    split at h3 <;> rename_i hc
    · rw [if_pos hc]; omega
    · rw [if_neg hc]; omega
end
mutual
theorem over_eq : ∀ t : T, wT t < 9223372036854775807 → ∀ n : Nat, over t n = decide ((n : Int) < deepT t)
  | .mk k l, h, 0 => by
    have := (deepT_in _ h).2.1
    rw [over, decide_eq_true (by omega)]
  | .mk k l, h, n + 1 => by
    have e := (deepT_in _ h).1
    rw [wT] at h
    have := overs_eq l (by omega) n 0 (Int.le_refl _)
    rw [over, e]
    have h0 : decide ((n : Int) < 0) = false := decide_eq_false (by omega)
    rw [h0, Bool.or_false] at this
    rw [this]
    exact decide_eq_decide.2 (by show (n : Int) < deepTs l 0 ↔ ((n + 1 : Nat) : Int) < deepTs l 0 + 1; omega)
theorem overs_eq : ∀ l : List T, wTs l < 9223372036854775807 → ∀ (n : Nat) (a : Int), 0 ≤ a → (overs l n || decide ((n : Int) < a)) = decide ((n : Int) < deepTs l a)
  | [], _, n, a, _ => by rw [overs, deepTs, Bool.false_or]
  | x :: r, h, n, a, ha => by
    rw [wTs] at h
    have h0 := (deepT_in x (by omega)).2.1
    have h1 := over_eq x (by omega) n
    have h2 := overs_eq r (by omega) n (big a (deepT x)) (by unfold big; split <;> omega)
    rw [overs, deepTs, ← h2, h1]
    have h3 : decide ((n : Int) < big a (deepT x)) = (decide ((n : Int) < deepT x) || decide ((n : Int) < a)) := by
      rw [Bool.eq_iff_iff]
      simp only [decide_eq_true_eq, Bool.or_eq_true]
      unfold big
      split <;> omega
    rw [h3]
    cases overs r n <;> cases decide ((n : Int) < deepT x) <;> cases decide ((n : Int) < a) <;> rfl
end
theorem L_rover (ks : List T) (hk : ks.length < 9223372036854775807) (n : Nat) (hn : n ≤ 40) (H : ∀ x ∈ ks, Cal 51 [tV x, nV (Int.ofNat n)] [] (RV (V.one (bX (over x n))))) (x2 : Int) : ∀ (d i : Nat), i ≤ ks.length → ks.length - i = d →
    Ev (fun m k z => l51_0 m (Ak k) z (Int.ofNat n + 1) (Int.ofNat i) x2 (T.rows ks)) (RV (V.one (bX (overs (ks.drop i) n)))) := by
  intro d
  induction d with
  | zero =>
    intro i hi hd
    rw [List.drop_eq_nil_of_le (by omega), overs]
    refine Ev.step ?_
    simp only [l51_0_eq, T.rows_len]
    exact Ev.no (lt_no i _ (by omega)) (Ev.of fun m k z => by rw [q51_3_eq])
  | succ d ih =>
    intro i hi hd
    have hlt : i < ks.length := by omega
    have hat := T.rows_at ks i hlt
    rw [T.row_eq] at hat
    rw [List.drop_eq_getElem_cons hlt, overs]
    refine Ev.step ?_
    simp only [l51_0_eq, T.rows_len]
    refine Ev.yes (lt_yes i _ hlt) ?_
    simp only [q51_1_eq, tn, hat]
    refine Ev.yes (in_range i _ (by rw [T.rows_len]; exact hlt)) ?_
    have hw : IntKind.wrap .i64 (Int.ofNat n + 1 - 1) = Int.ofNat n := by rw [wrap_in _ (by simp only [Int.ofNat_eq_natCast]; omega) (by simp only [Int.ofNat_eq_natCast]; omega)]; omega
    rw [hw]
    have hc := H ks[i] (List.getElem_mem hlt)
    cases hx : over ks[i] n with
    | true =>
      rw [hx] at hc
      exact v_oB hc (Ev.yes rfl (Ev.ret _))
    | false =>
      rw [hx] at hc
      refine v_oB hc (Ev.no rfl ?_)
      simp only [q51_2_eq, wrap_up i (by omega), Bool.false_or]
      exact ih (i + 1) (by omega) (by omega)
mutual
theorem C_rover : ∀ (t : T), wT t < 9223372036854775807 → ∀ n : Nat, n ≤ 40 → Cal 51 [tV t, nV (Int.ofNat n)] [] (RV (V.one (bX (over t n))))
  | t, h, 0, hn => by
    rw [over_zero]
    refine call51 _ _ _ ?_
    simp only [e51_eq]
    exact Ev.yes rfl (Ev.ret _)
  | .mk k l, h, n + 1, hn => by
    rw [wT] at h
    have hl := wTs_len l
    have H := C_rovers l (by omega) n (by omega)
    rw [over]
    refine call51 _ _ _ ?_
    simp only [e51_eq]
    refine Ev.no (decide_eq_false (by simp only [Int.ofNat_eq_natCast]; omega)) ?_
    simp only [q51_0_eq]
    exact Ev.diag (L_rover l (by omega) n (by omega) H k _ 0 (Nat.zero_le _) rfl)
theorem C_rovers : ∀ (l : List T), wTs l < 9223372036854775807 → ∀ n : Nat, n ≤ 40 → ∀ x ∈ l, Cal 51 [tV x, nV (Int.ofNat n)] [] (RV (V.one (bX (over x n))))
  | [], _, _, _, x, hx => by cases hx
  | z :: r, h, n, hn, x, hx => by
    rw [wTs] at h
    rcases List.mem_cons.1 hx with e | e
    · rw [e]; exact C_rover z (by omega) n hn
    · exact C_rovers r (by omega) n hn x e
end
theorem C_rover40 (t : T) (h : wT t < 9223372036854775807) : Cal 51 [tV t, nV 40] [] (RV (V.one (bX (decide (40 < deepT t))))) := by
  rw [show decide (40 < deepT t) = over t 40 from (over_eq t h 40).symm]
  exact C_rover t h 40 (Nat.le_refl _)
def limV : Option (Int × Int) → V
  | some (a, b) => V.tup [V.agg [iX 2, sX [], iX a, iX b], V.one (bX true)]
  | none => V.tup [V.agg fine, V.one (bX false)]
theorem limV_E (e : E) : limV (limE e) = deepR (deepE e 40) := by unfold limE; cases deepE e 40 <;> rfl
theorem Fld.row_is (f : Fld) : Fld.row f = [D.str (bx f.name), D.int IntKind.i64 f.typ.k, D.list 2 (T.rows f.typ.l), D.int IntKind.i64 f.line, D.int IntKind.i64 f.col] := rfl
theorem C_rfields (fs : List Fld) (h : wFs fs < 9223372036854775807) : Cal 50 [V.one (X.d (D.list 5 (Fld.rows fs)))] [] (RV (limV (limFs fs))) := by
  refine call50 _ ?_
  simp only [e50_eq]
  have hl := wFs_len fs
  have key : ∀ (d i : Nat), i ≤ fs.length → fs.length - i = d → Ev (fun m k z => l50_0 m (Ak k) z (Fld.rows fs) (Int.ofNat i) 0 (ByteArray.mk #[]) 0 0) (RV (limV (limFs (fs.drop i)))) := by
    intro d
    induction d with
    | zero =>
      intro i hi hd
      rw [List.drop_eq_nil_of_le (by omega), limFs]
      refine Ev.step ?_
      simp only [l50_0_eq, Fld.rows_len]
      exact Ev.no (lt_no i _ (by omega)) (Ev.of fun m k z => by rw [q50_2_eq]; rfl)
    | succ d ih =>
      intro i hi hd
      have hlt : i < fs.length := by omega
      have hat := Fld.rows_at fs i hlt
      rw [Fld.row_is] at hat
      rw [List.drop_eq_getElem_cons hlt, limFs]
      refine Ev.step ?_
      simp only [l50_0_eq, Fld.rows_len]
      refine Ev.yes (lt_yes i _ hlt) ?_
      simp only [q50_0_eq, tn, hat, Fld.rows_len]
      refine Ev.yes (in_range i _ hlt) ?_
      have hw := wFs_mem fs _ (List.getElem_mem hlt)
      have hc := C_rover40 fs[i].typ (by omega)
      unfold limT
      by_cases hx : 40 < deepT fs[i].typ
      · rw [decide_eq_true hx] at hc
        rw [if_pos hx]
        exact v_oB hc (Ev.yes rfl (Ev.yes (in_range i _ hlt) (Ev.yes (in_range i _ hlt) (Ev.ret _))))
      · rw [decide_eq_false hx] at hc
        rw [if_neg hx]
        refine v_oB hc (Ev.no rfl ?_)
        simp only [q50_1_eq, wrap_up i (show i < 9223372036854775807 by omega)]
        exact ih (i + 1) (by omega) (by omega)
  exact Ev.diag (key _ 0 (Nat.zero_le _) rfl)
end Go.Proofs.YtbmcafehpgimfaaGreat.Ps
namespace Go.Proofs.YtbmcafehpgimfaaGreat.Ps
set_option linter.unusedVariables false
set_option linter.unusedSimpArgs false
open Go Go.RowKit Px
open Lx (Tok)
open Px.Pm

def GT (v : V) : Prop := ∃ (k : Int) (c : List (List D)), v = V.agg [X.d (D.int IntKind.i64 k), X.d (D.list 2 c)]
theorem GT.is (k : Int) (c : List (List D)) : GT (V.agg [X.d (D.int IntKind.i64 k), X.d (D.list 2 c)]) := ⟨k, c, rfl⟩
def GD (v : V) : Prop := ∃ (s : ByteArray) (k : Int) (c : List (List D)) (x : Int) (y : Int), v = V.agg [X.d (D.str s), X.d (D.int IntKind.i64 k), X.d (D.list 2 c), X.d (D.int IntKind.i64 x), X.d (D.int IntKind.i64 y)]
theorem GD.is (s : ByteArray) (k : Int) (c : List (List D)) (x : Int) (y : Int) : GD (V.agg [X.d (D.str s), X.d (D.int IntKind.i64 k), X.d (D.list 2 c), X.d (D.int IntKind.i64 x), X.d (D.int IntKind.i64 y)]) := ⟨s, k, c, x, y, rfl⟩
def GN (v : V) : Prop := ∃ (s : ByteArray) (p : List (List D)) (k : Int) (c : List (List D)) (k1 : Int) (n1 : Int) (s1 : ByteArray) (a1 : List (List D)) (b1 : List (List D)) (c1 : List (List D)) (x1 : Int) (y1 : Int) (x : Int) (y : Int), v = V.agg [X.d (D.str s), X.d (D.list 5 p), X.d (D.int IntKind.i64 k), X.d (D.list 2 c), X.d (D.int IntKind.i64 k1), X.d (D.int IntKind.i64 n1), X.d (D.str s1), X.d (D.list 1 a1), X.d (D.list 1 b1), X.d (D.list 8 c1), X.d (D.int IntKind.i64 x1), X.d (D.int IntKind.i64 y1), X.d (D.int IntKind.i64 x), X.d (D.int IntKind.i64 y)]
theorem GN.is (s : ByteArray) (p : List (List D)) (k : Int) (c : List (List D)) (k1 : Int) (n1 : Int) (s1 : ByteArray) (a1 : List (List D)) (b1 : List (List D)) (c1 : List (List D)) (x1 : Int) (y1 : Int) (x : Int) (y : Int) : GN (V.agg [X.d (D.str s), X.d (D.list 5 p), X.d (D.int IntKind.i64 k), X.d (D.list 2 c), X.d (D.int IntKind.i64 k1), X.d (D.int IntKind.i64 n1), X.d (D.str s1), X.d (D.list 1 a1), X.d (D.list 1 b1), X.d (D.list 8 c1), X.d (D.int IntKind.i64 x1), X.d (D.int IntKind.i64 y1), X.d (D.int IntKind.i64 x), X.d (D.int IntKind.i64 y)]) := ⟨s, p, k, c, k1, n1, s1, a1, b1, c1, x1, y1, x, y, rfl⟩
def GP (v : V) : Prop := ∃ (p : List (List D)) (q : List (List D)) (k : Int) (n : Int) (s : ByteArray) (a : List (List D)) (b : List (List D)) (c : List (List D)) (x : Int) (y : Int), v = V.agg [X.d (D.list 5 p), X.d (D.list 14 q), X.d (D.int IntKind.i64 k), X.d (D.int IntKind.i64 n), X.d (D.str s), X.d (D.list 1 a), X.d (D.list 1 b), X.d (D.list 8 c), X.d (D.int IntKind.i64 x), X.d (D.int IntKind.i64 y)]
theorem GP.is (p : List (List D)) (q : List (List D)) (k : Int) (n : Int) (s : ByteArray) (a : List (List D)) (b : List (List D)) (c : List (List D)) (x : Int) (y : Int) : GP (V.agg [X.d (D.list 5 p), X.d (D.list 14 q), X.d (D.int IntKind.i64 k), X.d (D.int IntKind.i64 n), X.d (D.str s), X.d (D.list 1 a), X.d (D.list 1 b), X.d (D.list 8 c), X.d (D.int IntKind.i64 x), X.d (D.int IntKind.i64 y)]) := ⟨p, q, k, n, s, a, b, c, x, y, rfl⟩
section
variable {l : List Tok} {G : V → Prop} {α : Type} {enc : α → V} {f : FuncId} {args : List V} {i j j0 : Nat} {t t2 : Bool}
theorem B_T {k : Int} {c : List (List D)} {K : Nat → Nat → Nat → Int → List (List D) → List (List D) → Int → Bool → Option Out} {Q : Nat → Nat → Nat → D → List (List D) → Int → Bool → Option Out} (hc : Cal f args (rbs l i t) ⟨true, V.agg [X.d (D.int IntKind.i64 k), X.d (D.list 2 c)], D.junk, [rb l j t2], 0⟩) (h : BG l G (fun m κ n₀ => K m κ n₀ k c (toks l) (Int.ofNat j) t2) j0) : BG l G (fun m κ n₀ => r_a2IL2_L5IB (Ak κ false f args (rbs l i t)) (K m κ n₀) (Q m κ n₀)) j0 := h.map fun _ => v_a2IL2_L5IB hc
theorem RR_T {K : Nat → Nat → Nat → Int → List (List D) → List (List D) → Int → Bool → Option Out} {Q : Nat → Nat → Nat → D → List (List D) → Int → Bool → Option Out} {r : Rs (T)} {g : T → Nat → Rs α} (h : RG l tV GT (fun _ κ _ => Ak κ false f args (rbs l i t)) r) (hn : ∀ j, r = .no j → ∀ (k : Int) (c : List (List D)), BG l G (fun m κ n₀ => K m κ n₀ k c (toks l) (Int.ofNat j) true) j)
    (hy : ∀ a j, r = .ok a j → RG l enc G (fun m κ n₀ => K m κ n₀ a.k (T.rows a.l) (toks l) (Int.ofNat j) false) (g a j)) : RG l enc G (fun m κ n₀ => r_a2IL2_L5IB (Ak κ false f args (rbs l i t)) (K m κ n₀) (Q m κ n₀)) (thenR r g) := by
  cases r with
  | ok a j => exact (hy a j rfl).map fun _ => v_a2IL2_L5IB h
  | no j =>
    obtain ⟨v, ⟨k, c, rfl⟩, h⟩ := h
    exact (hn j rfl k c).map fun _ => v_a2IL2_L5IB h
  | out => trivial
theorem B_D {s : ByteArray} {k : Int} {c : List (List D)} {x : Int} {y : Int} {K : Nat → Nat → Nat → ByteArray → Int → List (List D) → Int → Int → List (List D) → Int → Bool → Option Out} {Q : Nat → Nat → Nat → D → List (List D) → Int → Bool → Option Out} (hc : Cal f args (rbs l i t) ⟨true, V.agg [X.d (D.str s), X.d (D.int IntKind.i64 k), X.d (D.list 2 c), X.d (D.int IntKind.i64 x), X.d (D.int IntKind.i64 y)], D.junk, [rb l j t2], 0⟩) (h : BG l G (fun m κ n₀ => K m κ n₀ s k c x y (toks l) (Int.ofNat j) t2) j0) : BG l G (fun m κ n₀ => r_a5SIL2II_L5IB (Ak κ false f args (rbs l i t)) (K m κ n₀) (Q m κ n₀)) j0 := h.map fun _ => v_a5SIL2II_L5IB hc
theorem RR_D {K : Nat → Nat → Nat → ByteArray → Int → List (List D) → Int → Int → List (List D) → Int → Bool → Option Out} {Q : Nat → Nat → Nat → D → List (List D) → Int → Bool → Option Out} {r : Rs (Fld)} {g : Fld → Nat → Rs α} (h : RG l fV GD (fun _ κ _ => Ak κ false f args (rbs l i t)) r) (hn : ∀ j, r = .no j → ∀ (s : ByteArray) (k : Int) (c : List (List D)) (x : Int) (y : Int), BG l G (fun m κ n₀ => K m κ n₀ s k c x y (toks l) (Int.ofNat j) true) j)
    (hy : ∀ a j, r = .ok a j → RG l enc G (fun m κ n₀ => K m κ n₀ (bx a.name) a.typ.k (T.rows a.typ.l) a.line a.col (toks l) (Int.ofNat j) false) (g a j)) : RG l enc G (fun m κ n₀ => r_a5SIL2II_L5IB (Ak κ false f args (rbs l i t)) (K m κ n₀) (Q m κ n₀)) (thenR r g) := by
  cases r with
  | ok a j => exact (hy a j rfl).map fun _ => v_a5SIL2II_L5IB h
  | no j =>
    obtain ⟨v, ⟨s, k, c, x, y, rfl⟩, h⟩ := h
    exact (hn j rfl s k c x y).map fun _ => v_a5SIL2II_L5IB h
  | out => trivial
theorem RR_N {K : Nat → Nat → Nat → ByteArray → List (List D) → Int → List (List D) → Int → Int → ByteArray → List (List D) → List (List D) → List (List D) → Int → Int → Int → Int → List (List D) → Int → Bool → Option Out} {Q : Nat → Nat → Nat → D → List (List D) → Int → Bool → Option Out} {r : Rs (Fnc)} {g : Fnc → Nat → Rs α} (h : RG l fnV GN (fun _ κ _ => Ak κ false f args (rbs l i t)) r) (hn : ∀ j, r = .no j → ∀ (s : ByteArray) (p : List (List D)) (k : Int) (c : List (List D)) (k1 : Int) (n1 : Int) (s1 : ByteArray) (a1 : List (List D)) (b1 : List (List D)) (c1 : List (List D)) (x1 : Int) (y1 : Int) (x : Int) (y : Int), BG l G (fun m κ n₀ => K m κ n₀ s p k c k1 n1 s1 a1 b1 c1 x1 y1 x y (toks l) (Int.ofNat j) true) j)
    (hy : ∀ a j, r = .ok a j → RG l enc G (fun m κ n₀ => K m κ n₀ (bx a.name) (Fld.rows a.params) a.res.k (T.rows a.res.l) a.body.k a.body.n (bx a.body.name) (strs a.body.names) (ints a.body.odds) (E.rows a.body.kids) a.body.line a.body.col a.line a.col (toks l) (Int.ofNat j) false) (g a j)) : RG l enc G (fun m κ n₀ => r_a14SL5IL2IISL1L1L8IIII_L5IB (Ak κ false f args (rbs l i t)) (K m κ n₀) (Q m κ n₀)) (thenR r g) := by
  cases r with
  | ok a j => exact (hy a j rfl).map fun _ => v_a14SL5IL2IISL1L1L8IIII_L5IB h
  | no j =>
    obtain ⟨v, ⟨s, p, k, c, k1, n1, s1, a1, b1, c1, x1, y1, x, y, rfl⟩, h⟩ := h
    exact (hn j rfl s p k c k1 n1 s1 a1 b1 c1 x1 y1 x y).map fun _ => v_a14SL5IL2IISL1L1L8IIII_L5IB h
  | out => trivial
end
section
variable {l : List Tok}
theorem C_btyp {j : Nat} (hi : j < l.length) : Cal 69 [P0] (rbs l j true) (ro (V.agg [X.d (D.int IntKind.i64 0), X.d (D.list 2 [])]) l j true) := by
  refine call69 _ _ _ ?_
  simp only [e69_eq]
  refine Ev.yes rfl ?_
  simp only [q69_2_eq]
  exact Ev.ret _
theorem C_bfield {j : Nat} (hi : j < l.length) : Cal 45 [P0] (rbs l j true) (ro (V.agg [X.d (D.str (ByteArray.mk #[])), X.d (D.int IntKind.i64 0), X.d (D.list 2 []), X.d (D.int IntKind.i64 0), X.d (D.int IntKind.i64 0)]) l j true) := by
  refine call45 _ _ _ ?_
  simp only [e45_eq]
  exact v_a5ISIII_L5IB (C_bkind _) (v_n_L5IB (C_btake hi _) (v_a2IL2_L5IB (C_btyp hi) (Ev.ret _)))
theorem bad_typs {j : Nat} (hj : j < l.length) (z3 : List (List D)) (z4 : Int) (z5 : Bool) (x3 k : Int) (c : List (List D)) : BG l GT (fun m κ n => l69_0 m (Ak κ) n z3 z4 z5 (toks l) (Int.ofNat j) true x3 k c) j := by refine BG.step ?_; simp only [l69_0_eq]; refine B_B (C_bmay (by first | assumption | omega) _) ?_; refine BG.no rfl ?_; simp only [q69_1_eq]; refine B_n (C_btake (by first | assumption | omega) _) ?_; simp only [q69_2_v1_eq]; exact BG.ret (GT.is _ _)
theorem T_nil : T.rows [] = [] := by rw [T.rows]
end
abbrev AtT (l : List Tok) (i : Nat) : Prop := RG l tV GT (fun _ κ _ => Ak κ false 69 [P0] (rbs l i false)) (pw l .typ i)
section
variable {l : List Tok} (hl : Few l)
include hl
theorem rtyps : ∀ (d i : Nat), i < l.length → l.length - i ≤ d → (∀ j, i < j → j < l.length → AtT l j) → ∀ (acc : List T) (z3 : List (List D)) (z4 : Int) (z5 : Bool) (x3 : Int), acc.length ≤ i →
    RG l tV GT (fun m κ n => l69_0 m (Ak κ) n z3 z4 z5 (toks l) (Int.ofNat i) false x3 3 (T.rows acc)) (run (pw l) l (.call .typs fun r => .ret (T.mk 3 (acc ++ r))) i)
  | 0, i, hi, h, _, _, _, _, _, _, _ => by omega
  | d + 1, i, hi, hd, H, acc, z3, z4, z5, x3, ha => by
    have g := hl.good
    rw [run_open g _ _ i hi]
    refine RG.step ?_
    simp only [l69_0_eq]
    refine RT_may hl.len hi wCm (fun h => RG.yes rfl ?_) (fun h => RG.no rfl ?_)
    · have h1 := nx g hi h
      simp only [q69_0_eq]
      show RG l tV GT _ (run (pw l) l (.call .typ fun a => .call .typs fun r => .ret (T.mk 3 (acc ++ a :: r))) (i + 1))
      rw [run_call]
      refine RR_T (H _ (by omega) h1) (fun j hj _ _ => ?_) fun a j hj => ?_
      · refine BG.yes (by rw [T.rows_len]; exact roomy _ _ (by have := hl.len; omega) (by omega)) ?_
        exact bad_typs (pw_no g h1 hj) _ _ _ _ _ _
      · have hf := pw_ok g h1 hj
        refine RG.yes (by rw [T.rows_len]; exact roomy _ _ (by have := hl.len; omega) (by omega)) ?_
        rw [← T.rows_app]
        have := rtyps d j hf.2 (by omega) (fun j' h1 h2 => H j' (by omega) h2) (acc ++ [a]) z3 z4 z5 x3 (by rw [List.length_append, List.length_singleton]; omega)
        simp only [List.append_assoc, List.singleton_append] at this
        exact this
    · simp only [q69_1_eq]
      refine RT_want hl.len hi wRp (by simp only [q69_2_v1_eq]; exact BG.ret (GT.is _ _)) fun h2 => ?_
      simp only [q69_2_v1_eq]
      exact RG.ret (P := pw l) fun _ _ _ => by rw [List.append_nil]; rfl
theorem rtyp : ∀ (d i : Nat), i < l.length → l.length - i ≤ d → AtT l i
  | 0, i, hi, h => by omega
  | d + 1, i, hi, hd => by
    have H : ∀ j, i < j → j < l.length → AtT l j := fun j h1 h2 => rtyp d j h2 (by omega)
    have g := hl.good
    show RG l tV GT _ (pw l .typ i)
    rw [pw_eq g _ i hi]
    refine RG.map (fun o h => call69 _ _ _ h) ?_
    simp only [e69_eq]
    refine RG.no rfl ?_
    show RG l tV GT _ (run (pw l) l (Pm.take wBool (.ret (T.mk 1 [])) (Pm.take wInt (.ret (T.mk 2 [])) (Pm.take wLb (.call .typ fun t => want wRb (.ret (T.mk 4 [t]))) (want wLp (.call .typ fun a => want wCm (.call .typ fun b => .call .typs fun r => .ret (T.mk 3 (a :: b :: r)))))))) i)
    refine RT_may hl.len hi wBool (fun h => RG.yes rfl ?_) (fun h => RG.no rfl ?_)
    · simp only [q69_2_eq]
      exact RG.ret (P := pw l) fun _ _ _ => by unfold tV; simp only [T.l, T_nil]; rfl
    refine RT_may hl.len hi wInt (fun h => RG.yes rfl ?_) (fun h => RG.no rfl ?_)
    · simp only [q69_2_eq]
      exact RG.ret (P := pw l) fun _ _ _ => by unfold tV; simp only [T.l, T_nil]; rfl
    refine RT_may hl.len hi wLb (fun h => RG.yes rfl ?_) (fun h => RG.no rfl ?_)
    · have h1 := nx g hi h
      rw [run_call]
      refine RR_T (H _ (by omega) h1) (fun j hj _ _ => ?_) fun a j hj => ?_
      · have hj := pw_no g h1 hj
        exact by refine B_n (C_btake (by first | assumption | omega) _) ?_; simp only [q69_2_v1_eq]; exact BG.ret (GT.is _ _)
      · have hf := pw_ok g h1 hj
        refine RT_want hl.len hf.2 wRb (by simp only [q69_2_v1_eq]; exact BG.ret (GT.is _ _)) fun h2 => ?_
        simp only [q69_2_v1_eq, ← T.rows_one]
        exact RG.ret (P := pw l) fun _ _ _ => rfl
    have badl : ∀ j, j < l.length → ∀ c : List (List D), BG l GT (fun m κ n => l69_0 n (Ak κ) n (toks l) (Int.ofNat i) false (toks l) (Int.ofNat j) true 0 3 c) j := fun j hj c => BG.diag (bad_typs hj _ _ _ _ _ _)
    refine RT_want hl.len hi wLp (by refine B_T (C_btyp hi) ?_; refine B_n (C_btake hi _) ?_; refine B_T (C_btyp hi) ?_; exact badl _ hi _) fun h => ?_
    have h1 := nx g hi h
    rw [run_call]
    refine RR_T (H _ (by omega) h1) (fun j hj _ _ => ?_) fun a j hj => ?_
    · have hj := pw_no g h1 hj
      refine B_n (C_btake hj _) ?_; refine B_T (C_btyp hj) ?_; exact badl _ hj _
    have hf := pw_ok g h1 hj
    refine RT_want hl.len hf.2 wCm (by refine B_T (C_btyp hf.2) ?_; exact badl _ hf.2 _) fun h => ?_
    have h2 := nx g hf.2 h
    rw [run_call]
    refine RR_T (H _ (by omega) h2) (fun j hj _ _ => badl _ (pw_no g h2 hj) _) fun b j2 hj2 => ?_
    have hf2 := pw_ok g h2 hj2
    rw [← T.rows_two]
    exact RG.diag (rtyps hl _ j2 hf2.2 (Nat.le_refl _) (fun j' h1 h2 => H j' (by omega) h2) [a, b] _ _ _ _ (by simp only [List.length_cons, List.length_nil]; omega))
theorem rtyp_ok (i : Nat) (hi : i < l.length) : AtT l i := rtyp hl _ i hi (Nat.le_refl _)
theorem rfield_ok (i : Nat) (hi : i < l.length) : RG l fV GD (fun _ κ _ => Ak κ false 45 [P0] (rbs l i false)) (pw l .field i) := by
  have g := hl.good
  rw [pw_eq g _ i hi]
  refine RG.map (fun o h => call45 _ _ _ h) ?_
  simp only [e45_eq]
  refine RT_kind hl.len hi 1 (by decide) (by refine B_n (C_btake (by first | assumption | omega) _) ?_; refine B_T (C_btyp (by first | assumption | omega)) ?_; exact BG.ret (GD.is _ _ _ _ _)) fun h => ?_
  have h1 := nxk g hi h (by decide)
  refine RT_want hl.len h1 wCl (by refine B_T (C_btyp (by first | assumption | omega)) ?_; exact BG.ret (GD.is _ _ _ _ _)) fun h => ?_
  have h2 := nx g h1 h
  rw [run_call]
  exact RR_T (rtyp_ok hl _ h2) (fun j hj _ _ => by exact BG.ret (GD.is _ _ _ _ _)) fun a j hj => RG.ret (P := pw l) fun _ _ _ => rfl
variable (hN : Nums l)
include hN
theorem rhead_v1 (i : Nat) (hi : i < l.length) (t : Tok) (ps : List Fld) (z3 : List (List D)) (z4 : Int) (z5 : Bool) (s3 : ByteArray) (x4 x5 x6 : Int) (s7 : ByteArray) (x8 x9 x10 x11 : Int) (x14 x15 x16 : Int) (s17 : ByteArray) (x18 x19 : Int) :
    RG l fnV GN (fun m κ n => q48_1_v1 (Ak κ) n z3 z4 z5 (toks l) (Int.ofNat i) false s3 x4 x5 x6 s7 x8 x9 x10 x11 (bx t.text) (Fld.rows ps) x14 x15 x16 s17 x18 x19 t.line t.col) (run (pw l) l (want wRp (funRest t ps)) i) := by
  have g := hl.good
  simp only [q48_1_v1_eq]
  unfold funRest
  refine RT_want hl.len hi wRp (by refine B_n (C_btake (by first | assumption | omega) _) ?_; refine B_T (C_btyp (by first | assumption | omega)) ?_; refine B_n (C_btake (by first | assumption | omega) _) ?_; refine B_E (C_bexpr (by first | assumption | omega)) ?_; refine B_n (C_btake (by first | assumption | omega) _) ?_; exact BG.ret (GN.is _ _ _ _ _ _ _ _ _ _ _ _ _ _)) fun h => ?_
  have h1 := nx g hi h
  refine RT_want hl.len h1 wCl (by refine B_T (C_btyp (by first | assumption | omega)) ?_; refine B_n (C_btake (by first | assumption | omega) _) ?_; refine B_E (C_bexpr (by first | assumption | omega)) ?_; refine B_n (C_btake (by first | assumption | omega) _) ?_; exact BG.ret (GN.is _ _ _ _ _ _ _ _ _ _ _ _ _ _)) fun h => ?_
  have h2 := nx g h1 h
  rw [run_call]
  refine RR_T (rtyp_ok hl _ h2) (fun j hj _ _ => ?_) fun a j hj => ?_
  · have hj := pw_no g h2 hj
    exact by refine B_n (C_btake (by first | assumption | omega) _) ?_; refine B_E (C_bexpr (by first | assumption | omega)) ?_; refine B_n (C_btake (by first | assumption | omega) _) ?_; exact BG.ret (GN.is _ _ _ _ _ _ _ _ _ _ _ _ _ _)
  have hf := pw_ok g h2 hj
  refine RT_want hl.len hf.2 wEq (by refine B_E (C_bexpr (by first | assumption | omega)) ?_; refine B_n (C_btake (by first | assumption | omega) _) ?_; exact BG.ret (GN.is _ _ _ _ _ _ _ _ _ _ _ _ _ _)) fun h => ?_
  have h3 := nx g hf.2 h
  refine RC_E g h3 (rexpr_ok hl hN _ h3) (fun j hj _ _ _ _ _ _ _ _ => by refine B_n (C_btake (by first | assumption | omega) _) ?_; exact BG.ret (GN.is _ _ _ _ _ _ _ _ _ _ _ _ _ _)) fun b j2 hij hj2 => ?_
  refine RT_want hl.len hj2 wSc (by exact BG.ret (GN.is _ _ _ _ _ _ _ _ _ _ _ _ _ _)) fun h => ?_
  exact RG.ret (P := pw l) fun _ _ _ => rfl
theorem rhead (i : Nat) (hi : i < l.length) (t : Tok) (z3 : List (List D)) (z4 : Int) (z5 : Bool) (s3 : ByteArray) (x4 x5 x6 : Int) (s7 : ByteArray) (x8 x9 x10 x11 : Int) (x14 x15 x16 : Int) (s17 : ByteArray) (x18 x19 : Int) :
    RG l fnV GN (fun m κ n => q48_1 (Ak κ) n z3 z4 z5 (toks l) (Int.ofNat i) false s3 x4 x5 x6 s7 x8 x9 x10 x11 (bx t.text) x14 x15 x16 s17 x18 x19 t.line t.col) (run (pw l) l (want wRp (funRest t [])) i) := by
  have g := hl.good
  simp only [q48_1_eq]
  unfold funRest
  refine RT_want hl.len hi wRp (by refine B_n (C_btake (by first | assumption | omega) _) ?_; refine B_T (C_btyp (by first | assumption | omega)) ?_; refine B_n (C_btake (by first | assumption | omega) _) ?_; refine B_E (C_bexpr (by first | assumption | omega)) ?_; refine B_n (C_btake (by first | assumption | omega) _) ?_; exact BG.ret (GN.is _ _ _ _ _ _ _ _ _ _ _ _ _ _)) fun h => ?_
  have h1 := nx g hi h
  refine RT_want hl.len h1 wCl (by refine B_T (C_btyp (by first | assumption | omega)) ?_; refine B_n (C_btake (by first | assumption | omega) _) ?_; refine B_E (C_bexpr (by first | assumption | omega)) ?_; refine B_n (C_btake (by first | assumption | omega) _) ?_; exact BG.ret (GN.is _ _ _ _ _ _ _ _ _ _ _ _ _ _)) fun h => ?_
  have h2 := nx g h1 h
  rw [run_call]
  refine RR_T (rtyp_ok hl _ h2) (fun j hj _ _ => ?_) fun a j hj => ?_
  · have hj := pw_no g h2 hj
    exact by refine B_n (C_btake (by first | assumption | omega) _) ?_; refine B_E (C_bexpr (by first | assumption | omega)) ?_; refine B_n (C_btake (by first | assumption | omega) _) ?_; exact BG.ret (GN.is _ _ _ _ _ _ _ _ _ _ _ _ _ _)
  have hf := pw_ok g h2 hj
  refine RT_want hl.len hf.2 wEq (by refine B_E (C_bexpr (by first | assumption | omega)) ?_; refine B_n (C_btake (by first | assumption | omega) _) ?_; exact BG.ret (GN.is _ _ _ _ _ _ _ _ _ _ _ _ _ _)) fun h => ?_
  have h3 := nx g hf.2 h
  refine RC_E g h3 (rexpr_ok hl hN _ h3) (fun j hj _ _ _ _ _ _ _ _ => by refine B_n (C_btake (by first | assumption | omega) _) ?_; exact BG.ret (GN.is _ _ _ _ _ _ _ _ _ _ _ _ _ _)) fun b j2 hij hj2 => ?_
  refine RT_want hl.len hj2 wSc (by exact BG.ret (GN.is _ _ _ _ _ _ _ _ _ _ _ _ _ _)) fun h => ?_
  exact RG.ret (P := pw l) fun _ _ _ => rfl
omit hl hN in
theorem bad_head {j : Nat} (hj : j < l.length) (z3 : List (List D)) (z4 : Int) (z5 : Bool) (s3 : ByteArray) (x4 x5 x6 : Int) (s7 : ByteArray) (x8 x9 x10 x11 : Int) (s12 : ByteArray) (r13 : List (List D)) (x14 x15 x16 : Int) (s17 : ByteArray) (x18 x19 : Int) (x20 x21 : Int) :
    BG l GN (fun m κ n => q48_1_v1 (Ak κ) n z3 z4 z5 (toks l) (Int.ofNat j) true s3 x4 x5 x6 s7 x8 x9 x10 x11 s12 r13 x14 x15 x16 s17 x18 x19 x20 x21) j := by simp only [q48_1_v1_eq]; refine B_n (C_btake (by first | assumption | omega) _) ?_; refine B_n (C_btake (by first | assumption | omega) _) ?_; refine B_T (C_btyp (by first | assumption | omega)) ?_; refine B_n (C_btake (by first | assumption | omega) _) ?_; refine B_E (C_bexpr (by first | assumption | omega)) ?_; refine B_n (C_btake (by first | assumption | omega) _) ?_; exact BG.ret (GN.is _ _ _ _ _ _ _ _ _ _ _ _ _ _)
omit hl hN in
theorem bad_flds {j : Nat} (hj : j < l.length) (z3 : List (List D)) (z4 : Int) (z5 : Bool) (s3 : ByteArray) (x4 x5 x6 : Int) (s7 : ByteArray) (x8 x9 x10 x11 : Int) (s12 : ByteArray) (r13 : List (List D)) (x14 x15 x16 : Int) (s17 : ByteArray) (x18 x19 : Int) (x20 x21 : Int) :
    BG l GN (fun m κ n => l48_0 m (Ak κ) n z3 z4 z5 (toks l) (Int.ofNat j) true s3 x4 x5 x6 s7 x8 x9 x10 x11 s12 r13 x14 x15 x16 s17 x18 x19 x20 x21) j := by
  refine BG.step ?_
  simp only [l48_0_eq]
  refine B_B (C_bmay hj _) (BG.no rfl ?_)
  exact bad_head hj _ _ _ _ _ _ _ _ _ _ _ _ _ _ _ _ _ _ _ _ _ _ 
theorem rfields : ∀ (d i : Nat), i < l.length → l.length - i ≤ d → ∀ (t : Tok) (acc : List Fld) (z3 : List (List D)) (z4 : Int) (z5 : Bool) (s3 : ByteArray) (x4 x5 x6 : Int) (s7 : ByteArray) (x8 x9 x10 x11 : Int) (x14 x15 x16 : Int) (s17 : ByteArray) (x18 x19 : Int), acc.length ≤ i →
    RG l fnV GN (fun m κ n => l48_0 m (Ak κ) n z3 z4 z5 (toks l) (Int.ofNat i) false s3 x4 x5 x6 s7 x8 x9 x10 x11 (bx t.text) (Fld.rows acc) x14 x15 x16 s17 x18 x19 t.line t.col) (run (pw l) l (.call .fields fun r => funRest t (acc ++ r)) i)
  | 0, i, hi, h => by omega
  | d + 1, i, hi, hd => fun t acc z3 z4 z5 s3 x4 x5 x6 s7 x8 x9 x10 x11 x14 x15 x16 s17 x18 x19 ha => by
    have g := hl.good
    rw [run_open g _ _ i hi]
    refine RG.step ?_
    simp only [l48_0_eq]
    refine RT_may hl.len hi wCm (fun h => RG.yes rfl ?_) (fun h => RG.no rfl ?_)
    · have h1 := nx g hi h
      simp only [q48_0_eq]
      show RG l fnV GN _ (run (pw l) l (.call .field fun a => .call .fields fun r => funRest t (acc ++ a :: r)) (i + 1))
      rw [run_call]
      refine RR_D (rfield_ok hl _ h1) (fun j hj _ _ _ _ _ => ?_) fun a j hj => ?_
      · exact BG.yes (by rw [Fld.rows_len]; exact roomy _ _ (by have := hl.len; omega) (by omega)) (bad_flds (pw_no g h1 hj) _ _ _ _ _ _ _ _ _ _ _ _ _ _ _ _ _ _ _ _ _ _ )
      · have hf := pw_ok g h1 hj
        refine RG.yes (by rw [Fld.rows_len]; exact roomy _ _ (by have := hl.len; omega) (by omega)) ?_
        rw [← Fld.rows_app]
        have := rfields d j hf.2 (by omega) t (acc ++ [a]) z3 z4 z5 s3 x4 x5 x6 s7 x8 x9 x10 x11 x14 x15 x16 s17 x18 x19 (by rw [List.length_append, List.length_singleton]; omega)
        simp only [List.append_assoc, List.singleton_append] at this
        exact this
    · show RG l fnV GN _ (run (pw l) l (want wRp (funRest t (acc ++ []))) i)
      rw [List.append_nil]
      exact rhead_v1 hl hN i hi t acc _ _ _ _ _ _ _ _ _ _ _ _ _ _ _ _ _ _ 
theorem rfun_ok (i : Nat) (hi : i < l.length) (h0 : isT wFun (tk l i) = true) : RG l fnV GN (fun _ κ _ => Ak κ false 48 [P0] (rbs l i false)) (pw l .fun_ (i + 1)) := by
  have g := hl.good
  have hi1 := nx g hi h0
  rw [pw_eq g _ _ hi1]
  refine RG.map (fun o h => call48 _ _ _ h) ?_
  simp only [e48_eq]
  refine R_n (C_rtake_yes hl.len hi h0) ?_
  have badl : ∀ j, j < l.length → ∀ (s12 : ByteArray) (r13 : List (List D)) (x20 x21 : Int), BG l GN (fun m κ n => l48_0 n (Ak κ) n (toks l) (Int.ofNat i) false (toks l) (Int.ofNat j) true (ByteArray.mk #[]) 0 0 0 (ByteArray.mk #[]) 0 0 0 0 s12 r13 0 0 0 (ByteArray.mk #[]) 0 0 x20 x21) j := fun j hj _ _ _ _ => BG.diag (bad_flds hj _ _ _ _ _ _ _ _ _ _ _ _ _ _ _ _ _ _ _ _ _ _ )
  show RG l fnV GN _ (run (pw l) l (Pm.kind 1 fun t => want wLp (.tst wRp (.next (funRest t [])) (.call .field fun a => .call .fields fun r => funRest t (a :: r)))) (i + 1))
  refine RT_kind hl.len hi1 1 (by decide) (by refine B_n (C_btake hi1 _) ?_; refine B_B (C_bis hi1 _) ?_; refine BG.yes rfl ?_; refine B_D (C_bfield hi1) ?_; exact badl _ hi1 _ _ _ _) fun h => ?_
  have h1 := nxk g hi1 h (by decide)
  refine RT_want hl.len h1 wLp (by refine B_B (C_bis h1 _) ?_; refine BG.yes rfl ?_; refine B_D (C_bfield h1) ?_; exact badl _ h1 _ _ _ _) fun h => ?_
  have h2 := nx g h1 h
  cases hr : isT wRp (tk l (i + 1 + 1 + 1)) with
  | true =>
    have hc := C_ris h2 wRp false
    rw [hr] at hc
    refine R_B hc (RG.no rfl ?_)
    have e : run (pw l) l (.tst wRp (.next (funRest (tk l (i + 1)) [])) (.call .field fun a => .call .fields fun r => funRest (tk l (i + 1)) (a :: r))) (i + 1 + 1 + 1) = run (pw l) l (want wRp (funRest (tk l (i + 1)) [])) (i + 1 + 1 + 1) := by
      rw [run, hr, run, hr]
      rfl
    rw [e]
    exact rhead hl hN _ h2 (tk l (i + 1)) _ _ _ _ _ _ _ _ _ _ _ _ _ _ _ _ _ _ 
  | false =>
    have hc := C_ris h2 wRp false
    rw [hr] at hc
    refine R_B hc (RG.yes rfl ?_)
    rw [run, hr]
    show RG l fnV GN _ (run (pw l) l (.call .field fun a => .call .fields fun r => funRest (tk l (i + 1)) (a :: r)) (i + 1 + 1 + 1))
    rw [run_call]
    refine RR_D (rfield_ok hl _ h2) (fun j hj _ _ _ _ _ => badl _ (pw_no g h2 hj) _ _ _ _) fun a j hj => ?_
    have hf := pw_ok g h2 hj
    rw [← Fld.rows_one]
    exact RG.diag (rfields hl hN _ j hf.2 (Nat.le_refl _) (tk l (i + 1)) [a] _ _ _ _ _ _ _ _ _ _ _ _ _ _ _ _ _ _  (by simp only [List.length_cons, List.length_nil]; omega))
theorem rquery (i : Nat) (hi : i < l.length) (z3 : List (List D)) (z4 : Int) (z5 : Bool) (x3 x4 : Int) (s5 : ByteArray) (x6 x7 y1 y2 : Int) (s6 : ByteArray) (y3 y4 : Int) : RG l pV GP (fun m κ n => q16_3 (Ak κ) n z3 z4 z5 (toks l) (Int.ofNat i) false x3 x4 s5 x6 x7 y1 y2 s6 y3 y4) (run (pw l) l (.call .expr fun q => .ret (⟨[], [], q⟩ : Pg)) i) := by
  have g := hl.good
  simp only [q16_3_eq]
  refine RC_E g hi (rexpr_ok hl hN _ hi) (fun j hj _ _ _ _ _ _ _ _ => by exact BG.ret (GP.is _ _ _ _ _ _ _ _ _ _)) fun a j hij hj => ?_
  exact RG.ret (P := pw l) fun _ _ _ => rfl
theorem rquery_v1 (i : Nat) (hi : i < l.length) (ins : List Fld) (z3 : List (List D)) (z4 : Int) (z5 : Bool) (x3 x4 : Int) (s5 : ByteArray) (x6 x7 y1 y2 : Int) (s6 : ByteArray) (y3 y4 : Int) : RG l pV GP (fun m κ n => q16_3_v1 (Ak κ) n z3 z4 z5 (toks l) (Int.ofNat i) false x3 x4 s5 x6 x7 (Fld.rows ins) y1 y2 s6 y3 y4) (run (pw l) l (.call .expr fun q => .ret (⟨ins, [], q⟩ : Pg)) i) := by
  have g := hl.good
  simp only [q16_3_v1_eq]
  refine RC_E g hi (rexpr_ok hl hN _ hi) (fun j hj _ _ _ _ _ _ _ _ => by exact BG.ret (GP.is _ _ _ _ _ _ _ _ _ _)) fun a j hij hj => ?_
  exact RG.ret (P := pw l) fun _ _ _ => rfl
omit hl hN in
theorem bad_funs_v1 {j : Nat} (hj : j < l.length) (r8 : List (List D)) (z3 : List (List D)) (z4 : Int) (z5 : Bool) (x3 x4 : Int) (s5 : ByteArray) (x6 x7 y1 y2 : Int) (s6 : ByteArray) (y3 y4 : Int) : BG l GP (fun m κ n => l16_1_v1 m (Ak κ) n z3 z4 z5 (toks l) (Int.ofNat j) true x3 x4 s5 x6 x7 r8 y1 y2 s6 y3 y4) j := by refine BG.step ?_; simp only [l16_1_v1_eq]; refine B_B (C_bis (by first | assumption | omega) _) ?_; refine BG.no rfl ?_; simp only [q16_3_v1_eq]; refine B_E (C_bexpr (by first | assumption | omega)) ?_; exact BG.ret (GP.is _ _ _ _ _ _ _ _ _ _)
theorem rquery_v2 (i : Nat) (hi : i < l.length) (fs : List Fnc) (z3 : List (List D)) (z4 : Int) (z5 : Bool) (x3 x4 : Int) (s5 : ByteArray) (x6 x7 y1 y2 : Int) (s6 : ByteArray) (y3 y4 : Int) : RG l pV GP (fun m κ n => q16_3_v2 (Ak κ) n z3 z4 z5 (toks l) (Int.ofNat i) false x3 x4 s5 x6 x7 (Fnc.rows fs) y1 y2 s6 y3 y4) (run (pw l) l (.call .expr fun q => .ret (⟨[], fs, q⟩ : Pg)) i) := by
  have g := hl.good
  simp only [q16_3_v2_eq]
  refine RC_E g hi (rexpr_ok hl hN _ hi) (fun j hj _ _ _ _ _ _ _ _ => by exact BG.ret (GP.is _ _ _ _ _ _ _ _ _ _)) fun a j hij hj => ?_
  exact RG.ret (P := pw l) fun _ _ _ => rfl
omit hl hN in
theorem bad_funs_v2 {j : Nat} (hj : j < l.length) (r9 : List (List D)) (z3 : List (List D)) (z4 : Int) (z5 : Bool) (x3 x4 : Int) (s5 : ByteArray) (x6 x7 y1 y2 : Int) (s6 : ByteArray) (y3 y4 : Int) : BG l GP (fun m κ n => l16_1_v2 m (Ak κ) n z3 z4 z5 (toks l) (Int.ofNat j) true x3 x4 s5 x6 x7 r9 y1 y2 s6 y3 y4) j := by refine BG.step ?_; simp only [l16_1_v2_eq]; refine B_B (C_bis (by first | assumption | omega) _) ?_; refine BG.no rfl ?_; simp only [q16_3_v2_eq]; refine B_E (C_bexpr (by first | assumption | omega)) ?_; exact BG.ret (GP.is _ _ _ _ _ _ _ _ _ _)
theorem rquery_v3 (i : Nat) (hi : i < l.length) (ins : List Fld) (fs : List Fnc) (z3 : List (List D)) (z4 : Int) (z5 : Bool) (x3 x4 : Int) (s5 : ByteArray) (x6 x7 y1 y2 : Int) (s6 : ByteArray) (y3 y4 : Int) : RG l pV GP (fun m κ n => q16_3_v3 (Ak κ) n z3 z4 z5 (toks l) (Int.ofNat i) false x3 x4 s5 x6 x7 (Fld.rows ins) (Fnc.rows fs) y1 y2 s6 y3 y4) (run (pw l) l (.call .expr fun q => .ret (⟨ins, fs, q⟩ : Pg)) i) := by
  have g := hl.good
  simp only [q16_3_v3_eq]
  refine RC_E g hi (rexpr_ok hl hN _ hi) (fun j hj _ _ _ _ _ _ _ _ => by exact BG.ret (GP.is _ _ _ _ _ _ _ _ _ _)) fun a j hij hj => ?_
  exact RG.ret (P := pw l) fun _ _ _ => rfl
omit hl hN in
theorem bad_funs_v3 {j : Nat} (hj : j < l.length) (r8 : List (List D)) (r9 : List (List D)) (z3 : List (List D)) (z4 : Int) (z5 : Bool) (x3 x4 : Int) (s5 : ByteArray) (x6 x7 y1 y2 : Int) (s6 : ByteArray) (y3 y4 : Int) : BG l GP (fun m κ n => l16_1_v3 m (Ak κ) n z3 z4 z5 (toks l) (Int.ofNat j) true x3 x4 s5 x6 x7 r8 r9 y1 y2 s6 y3 y4) j := by refine BG.step ?_; simp only [l16_1_v3_eq]; refine B_B (C_bis (by first | assumption | omega) _) ?_; refine BG.no rfl ?_; simp only [q16_3_v3_eq]; refine B_E (C_bexpr (by first | assumption | omega)) ?_; exact BG.ret (GP.is _ _ _ _ _ _ _ _ _ _)
theorem rfuns_v2 : ∀ (d i : Nat), i < l.length → l.length - i ≤ d → ∀ (fs : List Fnc) (z3 : List (List D)) (z4 : Int) (z5 : Bool) (x3 x4 : Int) (s5 : ByteArray) (x6 x7 y1 y2 : Int) (s6 : ByteArray) (y3 y4 : Int), fs.length ≤ i →
    RG l pV GP (fun m κ n => l16_1_v2 m (Ak κ) n z3 z4 z5 (toks l) (Int.ofNat i) false x3 x4 s5 x6 x7 (Fnc.rows fs) y1 y2 s6 y3 y4) (run (pw l) l (.call .funs fun b => .call .expr fun q => .ret (⟨[], fs ++ b, q⟩ : Pg)) i)
  | 0, i, hi, h => by omega
  | d + 1, i, hi, hd => fun fs z3 z4 z5 x3 x4 s5 x6 x7 y1 y2 s6 y3 y4 ha => by
    have g := hl.good
    rw [run_open g _ _ i hi]
    refine RG.step ?_
    simp only [l16_1_v2_eq]
    show RG l pV GP _ (run (pw l) l (.tst wFun (.next (.call .fun_ fun a => .call .funs fun r => .call .expr fun q => .ret (⟨[], fs ++ a :: r, q⟩ : Pg))) (.call .expr fun q => .ret (⟨[], fs ++ [], q⟩ : Pg))) i)
    refine RT_is hi wFun (fun h => RG.yes rfl ?_) (fun h => RG.no rfl ?_)
    · have h1 := nx g hi h
      simp only [q16_2_v2_eq]
      show RG l pV GP _ (run (pw l) l (.call .fun_ fun a => .call .funs fun r => .call .expr fun q => .ret (⟨[], fs ++ a :: r, q⟩ : Pg)) (i + 1))
      rw [run_call]
      refine RR_N (rfun_ok hl hN i hi h) (fun j hj _ _ _ _ _ _ _ _ _ _ _ _ _ _ => ?_) fun a j hj => ?_
      · exact BG.yes (by rw [Fnc.rows_len]; exact roomy _ _ (by have := hl.len; omega) (by omega)) (bad_funs_v2 (pw_no g h1 hj) _ _ _ _ _ _ _ _ _ _ _ _ _ _ )
      · have hf := pw_ok g h1 hj
        refine RG.yes (by rw [Fnc.rows_len]; exact roomy _ _ (by have := hl.len; omega) (by omega)) ?_
        rw [← Fnc.rows_app]
        have := rfuns_v2 d j hf.2 (by omega) (fs ++ [a]) z3 z4 z5 x3 x4 s5 x6 x7 y1 y2 s6 y3 y4 (by rw [List.length_append, List.length_singleton]; omega)
        simp only [List.append_assoc, List.singleton_append] at this
        exact this
    · rw [List.append_nil]
      exact rquery_v2 hl hN i hi fs _ _ _ _ _ _ _ _ _ _ _ _ _ 
theorem rfuns_v3 : ∀ (d i : Nat), i < l.length → l.length - i ≤ d → ∀ (ins : List Fld) (fs : List Fnc) (z3 : List (List D)) (z4 : Int) (z5 : Bool) (x3 x4 : Int) (s5 : ByteArray) (x6 x7 y1 y2 : Int) (s6 : ByteArray) (y3 y4 : Int), fs.length ≤ i →
    RG l pV GP (fun m κ n => l16_1_v3 m (Ak κ) n z3 z4 z5 (toks l) (Int.ofNat i) false x3 x4 s5 x6 x7 (Fld.rows ins) (Fnc.rows fs) y1 y2 s6 y3 y4) (run (pw l) l (.call .funs fun b => .call .expr fun q => .ret (⟨ins, fs ++ b, q⟩ : Pg)) i)
  | 0, i, hi, h => by omega
  | d + 1, i, hi, hd => fun ins fs z3 z4 z5 x3 x4 s5 x6 x7 y1 y2 s6 y3 y4 ha => by
    have g := hl.good
    rw [run_open g _ _ i hi]
    refine RG.step ?_
    simp only [l16_1_v3_eq]
    show RG l pV GP _ (run (pw l) l (.tst wFun (.next (.call .fun_ fun a => .call .funs fun r => .call .expr fun q => .ret (⟨ins, fs ++ a :: r, q⟩ : Pg))) (.call .expr fun q => .ret (⟨ins, fs ++ [], q⟩ : Pg))) i)
    refine RT_is hi wFun (fun h => RG.yes rfl ?_) (fun h => RG.no rfl ?_)
    · have h1 := nx g hi h
      simp only [q16_2_v3_eq]
      show RG l pV GP _ (run (pw l) l (.call .fun_ fun a => .call .funs fun r => .call .expr fun q => .ret (⟨ins, fs ++ a :: r, q⟩ : Pg)) (i + 1))
      rw [run_call]
      refine RR_N (rfun_ok hl hN i hi h) (fun j hj _ _ _ _ _ _ _ _ _ _ _ _ _ _ => ?_) fun a j hj => ?_
      · exact BG.yes (by rw [Fnc.rows_len]; exact roomy _ _ (by have := hl.len; omega) (by omega)) (bad_funs_v3 (pw_no g h1 hj) _ _ _ _ _ _ _ _ _ _ _ _ _ _ _ )
      · have hf := pw_ok g h1 hj
        refine RG.yes (by rw [Fnc.rows_len]; exact roomy _ _ (by have := hl.len; omega) (by omega)) ?_
        rw [← Fnc.rows_app]
        have := rfuns_v3 d j hf.2 (by omega) ins (fs ++ [a]) z3 z4 z5 x3 x4 s5 x6 x7 y1 y2 s6 y3 y4 (by rw [List.length_append, List.length_singleton]; omega)
        simp only [List.append_assoc, List.singleton_append] at this
        exact this
    · rw [List.append_nil]
      exact rquery_v3 hl hN i hi ins fs _ _ _ _ _ _ _ _ _ _ _ _ _ 
theorem rfuns (i : Nat) (hi : i < l.length) (z3 : List (List D)) (z4 : Int) (z5 : Bool) (x3 x4 : Int) (s5 : ByteArray) (x6 x7 y1 y2 : Int) (s6 : ByteArray) (y3 y4 : Int) :
    RG l pV GP (fun m κ n => l16_1 m (Ak κ) n z3 z4 z5 (toks l) (Int.ofNat i) false x3 x4 s5 x6 x7 y1 y2 s6 y3 y4) (run (pw l) l (.call .funs fun b => .call .expr fun q => .ret (⟨[], b, q⟩ : Pg)) i) := by
  have g := hl.good
  rw [run_open g _ _ i hi]
  refine RG.step ?_
  simp only [l16_1_eq]
  show RG l pV GP _ (run (pw l) l (.tst wFun (.next (.call .fun_ fun a => .call .funs fun r => .call .expr fun q => .ret (⟨[], a :: r, q⟩ : Pg))) (.call .expr fun q => .ret (⟨[], [], q⟩ : Pg))) i)
  refine RT_is hi wFun (fun h => RG.yes rfl ?_) (fun h => RG.no rfl ?_)
  · have h1 := nx g hi h
    simp only [q16_2_eq]
    show RG l pV GP _ (run (pw l) l (.call .fun_ fun a => .call .funs fun r => .call .expr fun q => .ret (⟨[], a :: r, q⟩ : Pg)) (i + 1))
    rw [run_call]
    refine RR_N (rfun_ok hl hN i hi h) (fun j hj _ _ _ _ _ _ _ _ _ _ _ _ _ _ => bad_funs_v2 (pw_no g h1 hj) _ _ _ _ _ _ _ _ _ _ _ _ _ _ ) fun a j hj => ?_
    have hf := pw_ok g h1 hj
    rw [show [[D.str (bx a.name), D.list 5 (Fld.rows a.params), D.int IntKind.i64 a.res.k, D.list 2 (T.rows a.res.l), D.int IntKind.i64 a.body.k, D.int IntKind.i64 a.body.n, D.str (bx a.body.name), D.list 1 (strs a.body.names), D.list 1 (ints a.body.odds), D.list 8 (E.rows a.body.kids), D.int IntKind.i64 a.body.line, D.int IntKind.i64 a.body.col, D.int IntKind.i64 a.line, D.int IntKind.i64 a.col]] = Fnc.rows [a] from (Fnc.rows_app [] a).symm]
    exact rfuns_v2 hl hN _ j hf.2 (Nat.le_refl _) [a] _ _ _ _ _ _ _ _ _ _ _ _ _ (by simp only [List.length_cons, List.length_nil]; omega)
  · exact rquery hl hN i hi _ _ _ _ _ _ _ _ _ _ _ _ _ 
theorem rfuns_v1 (i : Nat) (hi : i < l.length) (ins : List Fld) (z3 : List (List D)) (z4 : Int) (z5 : Bool) (x3 x4 : Int) (s5 : ByteArray) (x6 x7 y1 y2 : Int) (s6 : ByteArray) (y3 y4 : Int) :
    RG l pV GP (fun m κ n => l16_1_v1 m (Ak κ) n z3 z4 z5 (toks l) (Int.ofNat i) false x3 x4 s5 x6 x7 (Fld.rows ins) y1 y2 s6 y3 y4) (run (pw l) l (.call .funs fun b => .call .expr fun q => .ret (⟨ins, b, q⟩ : Pg)) i) := by
  have g := hl.good
  rw [run_open g _ _ i hi]
  refine RG.step ?_
  simp only [l16_1_v1_eq]
  show RG l pV GP _ (run (pw l) l (.tst wFun (.next (.call .fun_ fun a => .call .funs fun r => .call .expr fun q => .ret (⟨ins, a :: r, q⟩ : Pg))) (.call .expr fun q => .ret (⟨ins, [], q⟩ : Pg))) i)
  refine RT_is hi wFun (fun h => RG.yes rfl ?_) (fun h => RG.no rfl ?_)
  · have h1 := nx g hi h
    simp only [q16_2_v1_eq]
    show RG l pV GP _ (run (pw l) l (.call .fun_ fun a => .call .funs fun r => .call .expr fun q => .ret (⟨ins, a :: r, q⟩ : Pg)) (i + 1))
    rw [run_call]
    refine RR_N (rfun_ok hl hN i hi h) (fun j hj _ _ _ _ _ _ _ _ _ _ _ _ _ _ => bad_funs_v3 (pw_no g h1 hj) _ _ _ _ _ _ _ _ _ _ _ _ _ _ _ ) fun a j hj => ?_
    have hf := pw_ok g h1 hj
    rw [show [[D.str (bx a.name), D.list 5 (Fld.rows a.params), D.int IntKind.i64 a.res.k, D.list 2 (T.rows a.res.l), D.int IntKind.i64 a.body.k, D.int IntKind.i64 a.body.n, D.str (bx a.body.name), D.list 1 (strs a.body.names), D.list 1 (ints a.body.odds), D.list 8 (E.rows a.body.kids), D.int IntKind.i64 a.body.line, D.int IntKind.i64 a.body.col, D.int IntKind.i64 a.line, D.int IntKind.i64 a.col]] = Fnc.rows [a] from (Fnc.rows_app [] a).symm]
    exact rfuns_v3 hl hN _ j hf.2 (Nat.le_refl _) ins [a] _ _ _ _ _ _ _ _ _ _ _ _ _ (by simp only [List.length_cons, List.length_nil]; omega)
  · exact rquery_v1 hl hN i hi ins _ _ _ _ _ _ _ _ _ _ _ _ _ 
omit hl hN in
theorem bad_ins_v1 {j : Nat} (hj : j < l.length) (r8 : List (List D)) (z3 : List (List D)) (z4 : Int) (z5 : Bool) (x3 x4 : Int) (s5 : ByteArray) (x6 x7 y1 y2 : Int) (s6 : ByteArray) (y3 y4 : Int) : BG l GP (fun m κ n => l16_0_v1 m (Ak κ) n z3 z4 z5 (toks l) (Int.ofNat j) true x3 x4 s5 x6 x7 r8 y1 y2 s6 y3 y4) j := by
  refine BG.step ?_
  simp only [l16_0_v1_eq]
  refine B_B (C_bmay hj _) (BG.no rfl ?_)
  simp only [q16_1_v1_eq]
  exact BG.diag (bad_funs_v1 hj _ _ _ _ _ _ _ _ _ _ _ _ _ _ )
theorem rinputs_v1 : ∀ (d i : Nat), i < l.length → l.length - i ≤ d → ∀ (ins : List Fld) (z3 : List (List D)) (z4 : Int) (z5 : Bool) (x3 x4 : Int) (s5 : ByteArray) (x6 x7 y1 y2 : Int) (s6 : ByteArray) (y3 y4 : Int), ins.length ≤ i →
    RG l pV GP (fun m κ n => l16_0_v1 m (Ak κ) n z3 z4 z5 (toks l) (Int.ofNat i) false x3 x4 s5 x6 x7 (Fld.rows ins) y1 y2 s6 y3 y4) (run (pw l) l (.call .inputs fun a => .call .funs fun b => .call .expr fun q => .ret (⟨ins ++ a, b, q⟩ : Pg)) i)
  | 0, i, hi, h => by omega
  | d + 1, i, hi, hd => fun ins z3 z4 z5 x3 x4 s5 x6 x7 y1 y2 s6 y3 y4 ha => by
    have g := hl.good
    rw [run_open g _ _ i hi]
    refine RG.step ?_
    simp only [l16_0_v1_eq]
    show RG l pV GP _ (run (pw l) l (Pm.take wInput (.call .field fun a => want wSc (.call .inputs fun r => .call .funs fun b => .call .expr fun q => .ret (⟨ins ++ a :: r, b, q⟩ : Pg))) (.call .funs fun b => .call .expr fun q => .ret (⟨ins ++ [], b, q⟩ : Pg))) i)
    refine RT_may hl.len hi wInput (fun h => RG.yes rfl ?_) (fun h => RG.no rfl ?_)
    · have h1 := nx g hi h
      simp only [q16_0_v1_eq]
      rw [run_call]
      refine RR_D (rfield_ok hl _ h1) (fun j hj _ _ _ _ _ => ?_) fun a j hj => ?_
      · have hj := pw_no g h1 hj
        exact BG.yes (by rw [Fld.rows_len]; exact roomy _ _ (by have := hl.len; omega) (by omega)) (B_n (C_btake hj _) (bad_ins_v1 hj _ _ _ _ _ _ _ _ _ _ _ _ _ _ ))
      · have hf := pw_ok g h1 hj
        refine RG.yes (by rw [Fld.rows_len]; exact roomy _ _ (by have := hl.len; omega) (by omega)) ?_
        refine RT_want hl.len hf.2 wSc (bad_ins_v1 hf.2 _ _ _ _ _ _ _ _ _ _ _ _ _ _ ) fun h => ?_
        have h2 := nx g hf.2 h
        rw [← Fld.rows_app]
        have := rinputs_v1 d (j + 1) h2 (by omega) (ins ++ [a]) z3 z4 z5 x3 x4 s5 x6 x7 y1 y2 s6 y3 y4 (by rw [List.length_append, List.length_singleton]; omega)
        simp only [List.append_assoc, List.singleton_append] at this
        exact this
    · rw [List.append_nil]
      simp only [q16_1_v1_eq]
      exact RG.diag (rfuns_v1 hl hN i hi ins _ _ _ _ _ _ _ _ _ _ _ _ _ )
theorem rprogram_ok (i : Nat) (hi : i < l.length) : RG l pV GP (fun _ κ _ => Ak κ false 16 [P0] (rbs l i false)) (pw l .program i) := by
  have g := hl.good
  rw [pw_eq g _ i hi]
  refine RG.map (fun o h => call16 _ _ _ h) ?_
  simp only [e16_eq]
  show RG l pV GP _ (run (pw l) l (.call .inputs fun a => .call .funs fun b => .call .expr fun q => .ret (⟨a, b, q⟩ : Pg)) i)
  rw [run_open g _ _ i hi]
  refine RG.diag (F := fun m κ n => l16_0 m (Ak κ) n (toks l) (Int.ofNat i) false (toks l) (Int.ofNat i) false 0 0 (ByteArray.mk #[]) 0 0 0 0 (ByteArray.mk #[]) 0 0) ?_
  refine RG.step ?_
  simp only [l16_0_eq]
  show RG l pV GP _ (run (pw l) l (Pm.take wInput (.call .field fun a => want wSc (.call .inputs fun r => .call .funs fun b => .call .expr fun q => .ret (⟨a :: r, b, q⟩ : Pg))) (.call .funs fun b => .call .expr fun q => .ret (⟨[], b, q⟩ : Pg))) i)
  refine RT_may hl.len hi wInput (fun h => RG.yes rfl ?_) (fun h => RG.no rfl ?_)
  · have h1 := nx g hi h
    simp only [q16_0_eq]
    rw [run_call]
    refine RR_D (rfield_ok hl _ h1) (fun j hj _ _ _ _ _ => ?_) fun a j hj => ?_
    · have hj := pw_no g h1 hj
      exact B_n (C_btake hj _) (bad_ins_v1 hj _ _ _ _ _ _ _ _ _ _ _ _ _ _ )
    · have hf := pw_ok g h1 hj
      refine RT_want hl.len hf.2 wSc (bad_ins_v1 hf.2 _ _ _ _ _ _ _ _ _ _ _ _ _ _ ) fun h => ?_
      have h2 := nx g hf.2 h
      rw [← Fld.rows_one]
      exact rinputs_v1 hl hN _ (j + 1) h2 (Nat.le_refl _) [a] _ _ _ _ _ _ _ _ _ _ _ _ _ (by simp only [List.length_cons, List.length_nil]; omega)
  · simp only [q16_1_eq]
    exact RG.diag (rfuns hl hN i hi _ _ _ _ _ _ _ _ _ _ _ _ _ )
end
end Go.Proofs.YtbmcafehpgimfaaGreat.Ps
namespace Go.Proofs.YtbmcafehpgimfaaGreat.Ps
set_option linter.unusedVariables false
set_option linter.unusedSimpArgs false
set_option maxRecDepth 4000
open Go Go.RowKit Px Lx

theorem C_rsmall (c : UInt8) : Cal 62 [V.one (X.d (D.int IntKind.u8 (Int.ofNat c.toNat)))] [] (RV (V.one (bX (sm c)))) := by
  refine call62 _ (Ev.of fun m k n => ?_)
  rw [e62_eq]
  unfold sm
  have e1 : decide (Int.ofNat c.toNat ≥ 97) = decide (97 ≤ c.toNat) := decide_eq_decide.2 (by simp only [Int.ofNat_eq_natCast]; omega)
  have e2 : decide (Int.ofNat c.toNat ≤ 122) = decide (c.toNat ≤ 122) := decide_eq_decide.2 (by simp only [Int.ofNat_eq_natCast]; omega)
  rw [e1, e2]
  cases decide (97 ≤ c.toNat) <;> rfl
theorem C_rdigit (c : UInt8) : Cal 63 [V.one (X.d (D.int IntKind.u8 (Int.ofNat c.toNat)))] [] (RV (V.one (bX (dg c)))) := by
  refine call63 _ (Ev.of fun m k n => ?_)
  rw [e63_eq]
  unfold dg
  have e1 : decide (Int.ofNat c.toNat ≥ 48) = decide (48 ≤ c.toNat) := decide_eq_decide.2 (by simp only [Int.ofNat_eq_natCast]; omega)
  have e2 : decide (Int.ofNat c.toNat ≤ 57) = decide (c.toNat ≤ 57) := decide_eq_decide.2 (by simp only [Int.ofNat_eq_natCast]; omega)
  rw [e1, e2]
  cases decide (48 ≤ c.toNat) <;> rfl
theorem beqL_bx' (a b : List UInt8) : beqL (bx a).data.toList (bx b).data.toList = (a == b) := by
  rw [bx_data, bx_data, beqL_eq]
theorem C_rword (w : List UInt8) : Cal 64 [V.one (X.d (D.str (bx w)))] [] (RV (V.one (bX (isWord w)))) := by
  have hw : Cal 81 [] [] (RV (V.one (X.d (D.list 1 (strs wordList))))) := by
    refine call81 ?_
    simp only [e81_eq]
    exact Ev.ret _
  have key : ∀ (d i : Nat), i ≤ 21 → 21 - i = d → Ev (fun m k n => l64_0 m (Ak k) n (bx w) (strs wordList) (Int.ofNat i)) (RV (V.one (bX (has (wordList.drop i) w)))) := by
    intro d
    induction d with
    | zero =>
      intro i hi hd
      obtain rfl : i = 21 := by omega
      refine Ev.step ?_
      simp only [l64_0_eq]
      exact Ev.no rfl (Ev.of fun m k n => by rw [q64_2_eq]; rfl)
    | succ d ih =>
      intro i hi hd
      have hlt : i < wordList.length := by show i < 21; omega
      have hat : (strs wordList).getD i [] = [D.str (bx wordList[i])] := by
        unfold strs
        rw [rows_getD _ _ _ hlt, List.getD_eq_getElem?_getD, List.getElem?_eq_getElem hlt]
        rfl
      have hdr : wordList.drop i = wordList[i] :: wordList.drop (i + 1) := List.drop_eq_getElem_cons hlt
      refine Ev.step ?_
      simp only [l64_0_eq]
      refine Ev.yes (lt_yes i 21 (by omega)) ?_
      simp only [q64_0_eq, tn, hat]
      refine Ev.yes (in_range i _ (by rw [show (strs wordList).length = 21 from rfl]; omega)) (Ev.yes rfl ?_)
      show Ev (fun m k n => bif beqL (bx wordList[i]).data.toList (bx w).data.toList then _ else _) _
      rw [beqL_bx', hdr]
      by_cases h : wordList[i]'hlt = w
      · refine Ev.yes (by simpa using h) (Ev.of fun m k n => ?_)
        rw [has_yes _ h.symm]
      · refine Ev.no (by simpa using h) ?_
        rw [has_no _ (fun e => h e.symm)]
        simp only [q64_1_eq, wrap_up i (show i < 9223372036854775807 by omega)]
        exact ih (i + 1) (by omega) (by omega)
  refine call64 _ ?_
  simp only [e64_eq]
  exact v_oL1 hw (Ev.diag (key 21 0 (by omega) rfl))
theorem val_app (a b : List UInt8) : val a ≤ val (a ++ b) := by
  unfold val
  rw [List.foldl_append]
  generalize a.foldl (fun a c => a * 10 + (c.toNat - 48)) 0 = v
  induction b generalizing v with
  | nil => exact Nat.le_refl _
  | cons c b ih => exact Nat.le_trans (by show v ≤ v * 10 + (c.toNat - 48); omega) (ih _)
theorem val_take (l : List UInt8) (i : Nat) : val (l.take i) ≤ val l := by
  have := val_app (l.take i) (l.drop i)
  rwa [List.take_append_drop] at this
def numV (v : Nat) : V := if v ≤ 2147483647 then V.tup [V.one (iX (v : Int)), V.one (bX true)] else V.tup [V.one (iX 0), V.one (bX false)]
theorem C_rnumber (w : List UInt8) (hl : w.length ≤ 1000000) (hw : ∀ c ∈ w, dg c = true) : Cal 65 [V.one (X.d (D.str (bx w)))] [] (RV (numV (val w))) := by
  have key : ∀ (d i : Nat), i ≤ w.length → w.length - i = d → val (w.take i) ≤ 2147483647 → Ev (fun m k n => l65_0 m (Ak k) n (bx w) (val (w.take i) : Int) (Int.ofNat i)) (RV (numV (val w))) := by
    intro d
    induction d with
    | zero =>
      intro i hi hd hv
      obtain rfl : i = w.length := by omega
      rw [List.take_length] at hv ⊢
      refine Ev.step ?_
      simp only [l65_0_eq]
      refine Ev.no (lt_no _ _ (by rw [bx_size]; exact Nat.le_refl _)) (Ev.of fun m k n => ?_)
      rw [q65_2_eq]
      unfold numV
      rw [if_pos hv]
    | succ d ih =>
      intro i hi hd hv
      rcases drop_cases w i hi with ⟨e, _⟩ | ⟨hlt, c, t, hc, ht⟩
      · omega
      · have hb := get_bx w i c t hc
        have hlc : w[i] = c := by
          rw [List.drop_eq_getElem_cons hlt] at hc
          injection hc
        have hsn : w.take (i + 1) = w.take i ++ [c] := by rw [List.take_succ_eq_append_getElem hlt, hlc]
        have hd2 := hw c (hlc ▸ List.getElem_mem hlt)
        have h48 : 48 ≤ c.toNat ∧ c.toNat ≤ 57 := by simpa [dg] using hd2
        have hval : val (w.take (i + 1)) = val (w.take i) * 10 + (c.toNat - 48) := by rw [hsn, val_snoc]
        refine Ev.step ?_
        simp only [l65_0_eq]
        refine Ev.yes (lt_yes i _ (by rw [bx_size]; exact hlt)) ?_
        simp only [q65_0_eq, hb]
        have e1 : IntKind.wrap .i64 (IntKind.wrap .i64 (10 * (val (w.take i) : Int)) + IntKind.wrap .i64 (IntKind.wrap .u8 (Int.ofNat c.toNat - 48))) = (val (w.take (i + 1)) : Int) := by
          simp only [Int.ofNat_eq_natCast]
          rw [wrap_u8 _ (by omega) (by omega), wrap_in ((c.toNat : Int) - 48) (by omega) (by omega), wrap_in (10 * (val (w.take i) : Int)) (by omega) (by omega), wrap_in _ (by omega) (by omega), hval]
          omega
        rw [e1]
        refine Ev.yes (in_range i _ (by rw [bx_size]; exact hlt)) ?_
        by_cases hbig : 2147483647 < val (w.take (i + 1))
        · refine Ev.yes (decide_eq_true (by show (2147483647 : Int) < _; omega)) (Ev.of fun m k n => ?_)
          have := val_take w (i + 1)
          unfold numV
          rw [if_neg (by omega)]
        · refine Ev.no (decide_eq_false (by show ¬ (2147483647 : Int) < _; omega)) ?_
          simp only [q65_1_eq, wrap_up i (show i < 9223372036854775807 by omega)]
          exact ih (i + 1) (by omega) (by omega) (by omega)
  refine call65 _ ?_
  simp only [e65_eq]
  exact Ev.diag (key _ 0 (Nat.zero_le _) rfl (by simp [val]))
theorem beq_byte (c k : UInt8) : (c == k) = (Int.ofNat c.toNat == Int.ofNat k.toNat) := by
  rw [Bool.eq_iff_iff, beq_iff_eq, beq_iff_eq]
  constructor
  · intro h; rw [h]
  · intro h; exact UInt8.toNat_inj.1 (Int.ofNat.inj h)
theorem ones_eq (c : UInt8) : hasB ones c = ((Int.ofNat c.toNat == 40) || ((Int.ofNat c.toNat == 41) || ((Int.ofNat c.toNat == 91) || ((Int.ofNat c.toNat == 93) || ((Int.ofNat c.toNat == 123) || ((Int.ofNat c.toNat == 125) || ((Int.ofNat c.toNat == 44) || ((Int.ofNat c.toNat == 59) || ((Int.ofNat c.toNat == 58) || ((Int.ofNat c.toNat == 124) || ((Int.ofNat c.toNat == 43) || ((Int.ofNat c.toNat == 45) || ((Int.ofNat c.toNat == 42) || ((Int.ofNat c.toNat == 47) || ((Int.ofNat c.toNat == 37) || ((Int.ofNat c.toNat == 61) || (Int.ofNat c.toNat == 60))))))))))))))))) := by
  unfold hasB ones
  simp only [List.contains_cons, List.contains_nil, Bool.or_false, beq_byte]
  rfl
theorem C_rsign (l : List UInt8) (hne : l ≠ []) : Cal 66 [V.one (X.d (D.str (bx l)))] [] (RV (V.one (sX (sgn l)))) := by
  obtain ⟨c, t, rfl⟩ : ∃ c t, l = c :: t := by cases l with | nil => exact absurd rfl hne | cons c t => exact ⟨c, t, rfl⟩
  have hp : (true && decide ((0 : Int) < Int.ofNat (bx (c :: t)).size)) = true := by rw [Bool.true_and]; exact decide_eq_true (by rw [bx_size]; simp only [List.length_cons, Int.ofNat_eq_natCast]; omega)
  have hp1 : (true && decide ((1 : Int) ≤ Int.ofNat (bx (c :: t)).size) && true && true) = true := by rw [Bool.true_and, Bool.and_true, Bool.and_true]; exact decide_eq_true (by rw [bx_size]; simp only [List.length_cons, Int.ofNat_eq_natCast]; omega)
  have x1 : (bx (c :: t)).extract 0 1 = bx [c] := by rw [ext_bx]; rfl
  have x2 : (bx (c :: t)).extract 0 2 = bx ((c :: t).take 2) := by rw [ext_bx]; rfl
  have last : ∀ b : Bool, Ev (fun _ k n => q66_2 (Ak k) n (bx (c :: t)) b) (RV (V.one (sX (bif b then [c] else [])))) := fun b => by
    simp only [q66_2_eq, x1]
    cases b with
    | true => exact Ev.yes rfl (Ev.yes hp1 (Ev.ret _))
    | false => exact Ev.no rfl (Ev.of fun m k n => by rw [q66_3_eq]; rfl)
  have one : Ev (fun _ k n => q66_1 (Ak k) n (bx (c :: t))) (RV (V.one (sX (bif hasB ones c then [c] else [])))) := by
    simp only [q66_1_eq, get_bx0, ones_eq]
    refine Ev.yes hp ?_
    generalize (Int.ofNat c.toNat == 40) = b1
    generalize (Int.ofNat c.toNat == 41) = b2
    generalize (Int.ofNat c.toNat == 91) = b3
    generalize (Int.ofNat c.toNat == 93) = b4
    generalize (Int.ofNat c.toNat == 123) = b5
    generalize (Int.ofNat c.toNat == 125) = b6
    generalize (Int.ofNat c.toNat == 44) = b7
    generalize (Int.ofNat c.toNat == 59) = b8
    generalize (Int.ofNat c.toNat == 58) = b9
    generalize (Int.ofNat c.toNat == 124) = b10
    generalize (Int.ofNat c.toNat == 43) = b11
    generalize (Int.ofNat c.toNat == 45) = b12
    generalize (Int.ofNat c.toNat == 42) = b13
    generalize (Int.ofNat c.toNat == 47) = b14
    generalize (Int.ofNat c.toNat == 37) = b15
    generalize (Int.ofNat c.toNat == 61) = b16
    generalize (Int.ofNat c.toNat == 60) = b17
    cases b1
    rotate_left
    · exact last true
    cases b2
    rotate_left
    · exact last true
    cases b3
    rotate_left
    · exact last true
    cases b4
    rotate_left
    · exact last true
    cases b5
    rotate_left
    · exact last true
    cases b6
    rotate_left
    · exact last true
    cases b7
    rotate_left
    · exact last true
    cases b8
    rotate_left
    · exact last true
    cases b9
    rotate_left
    · exact last true
    cases b10
    rotate_left
    · exact last true
    cases b11
    rotate_left
    · exact last true
    cases b12
    rotate_left
    · exact last true
    cases b13
    rotate_left
    · exact last true
    cases b14
    rotate_left
    · exact last true
    cases b15
    rotate_left
    · exact last true
    cases b16
    rotate_left
    · exact last true
    exact last b17
  have hs : sgn (c :: t) = bif has twos ((c :: t).take 2) then (c :: t).take 2 else bif hasB ones c then [c] else [] := by
    unfold sgn
    cases has twos ((c :: t).take 2) with
    | true => rfl
    | false => cases h : hasB ones c with
      | true => show (if false = true then _ else if hasB ones c = true then _ else _) = _; rw [h]; rfl
      | false => show (if false = true then _ else if hasB ones c = true then _ else _) = _; rw [h]; rfl
  rw [hs]
  have ht : has twos ((c :: t).take 2) = (((c :: t).take 2 == [61, 61]) || (((c :: t).take 2 == [61, 62]) || (((c :: t).take 2 == [60, 61]) || ((c :: t).take 2 == [58, 58])))) := by
    unfold has twos
    simp only [List.contains_cons, List.contains_nil, Bool.or_false]
  refine call66 _ ?_
  simp only [e66_eq]
  by_cases h2 : 2 ≤ (c :: t).length
  · have hp2 : (true && decide ((2 : Int) ≤ Int.ofNat (bx (c :: t)).size) && true && true) = true := by rw [Bool.true_and, Bool.and_true, Bool.and_true]; exact decide_eq_true (by rw [bx_size]; simp only [Int.ofNat_eq_natCast]; omega)
    have two : ∀ b : Bool, Ev (fun _ k n => q66_0 (Ak k) n (bx (c :: t)) b) (RV (V.one (sX (bif b then (c :: t).take 2 else bif hasB ones c then [c] else [])))) := fun b => by
      simp only [q66_0_eq, x2]
      cases b with
      | true => exact Ev.yes rfl (Ev.yes hp2 (Ev.ret _))
      | false => exact Ev.no rfl one
    refine Ev.yes (decide_eq_true (by show (2 : Int) ≤ Int.ofNat (bx (c :: t)).size; rw [bx_size]; simp only [Int.ofNat_eq_natCast]; omega)) (Ev.yes hp2 ?_)
    rw [ht, x2]
    have b1 : beqL (bx ((c :: t).take 2)).data.toList (ByteArray.mk #[61, 61]).data.toList = ((c :: t).take 2 == [61, 61]) := beqL_bx' _ [61, 61]
    have b2 : beqL (bx ((c :: t).take 2)).data.toList (ByteArray.mk #[60, 61]).data.toList = ((c :: t).take 2 == [60, 61]) := beqL_bx' _ [60, 61]
    have b3 : beqL (bx ((c :: t).take 2)).data.toList (ByteArray.mk #[58, 58]).data.toList = ((c :: t).take 2 == [58, 58]) := beqL_bx' _ [58, 58]
    have b4 : beqL (bx ((c :: t).take 2)).data.toList (ByteArray.mk #[61, 62]).data.toList = ((c :: t).take 2 == [61, 62]) := beqL_bx' _ [61, 62]
    rw [b1, b2, b3, b4]
    generalize ((c :: t).take 2 == [61, 61]) = c1
    generalize ((c :: t).take 2 == [60, 61]) = c2
    generalize ((c :: t).take 2 == [58, 58]) = c3
    generalize ((c :: t).take 2 == [61, 62]) = c4
    cases c1
    rotate_left
    · exact two true
    cases c2
    rotate_left
    · rw [show (false || (c4 || (true || c3))) = true by cases c4 <;> rfl]; exact two true
    cases c3
    rotate_left
    · rw [show (false || (c4 || (false || true))) = true by cases c4 <;> rfl]; exact two true
    rw [show (false || (c4 || (false || false))) = c4 by cases c4 <;> rfl]
    exact two c4
  · have hlen : (c :: t).take 2 = [c] := by
      cases t with
      | nil => rfl
      | cons d t => simp at h2
    refine Ev.no (decide_eq_false (by show ¬ (2 : Int) ≤ Int.ofNat (bx (c :: t)).size; rw [bx_size]; simp only [Int.ofNat_eq_natCast]; omega)) ?_
    rw [hlen, show has twos [c] = false by simp [has, twos]]
    exact one
section
variable {x2 x3 x4 x5 x6 x7 : Int} {s3 s4 : ByteArray}
theorem LR_word (l : List UInt8) (hl : l.length ≤ 1000000) : ∀ (d i : Nat), i ≤ l.length → l.length - i = d → ∀ r, Ev (fun m k n => q43_1 (Ak k) n (bx l) (Int.ofNat (i + ((l.drop i).takeWhile nm).length)) x2 s3 x4 x5 x6) r →
    Ev (fun m k n => l43_0 m (Ak k) n (bx l) (Int.ofNat i) x2 s3 x4 x5 x6) r := by
  intro d
  induction d with
  | zero =>
    intro i hi hd r h
    rw [List.drop_eq_nil_of_le (by omega)] at h
    refine Ev.step ?_
    simp only [l43_0_eq]
    exact Ev.no (lt_no i _ (by rw [bx_size]; omega)) h
  | succ d ih =>
    intro i hi hd r h
    rcases drop_cases l i hi with ⟨e, _⟩ | ⟨hlt, c, t, hc, ht⟩
    · omega
    · have hb := get_bx l i c t hc
      rw [hc] at h
      refine Ev.step ?_
      simp only [l43_0_eq, hb]
      refine Ev.yes (lt_yes i _ (by rw [bx_size]; exact hlt)) (Ev.yes (in_range i _ (by rw [bx_size]; exact hlt)) ?_)
      refine v_oB (C_rsmall c) ?_
      by_cases hn : nm c = true
      · rw [List.takeWhile_cons_of_pos hn] at h
        have h2 := ih (i + 1) (by omega) (by omega) r (by rw [ht]; simpa [Nat.add_assoc, Nat.add_comm 1] using h)
        have go : Ev (fun m k n => q43_0 (Ak k) m n (bx l) (Int.ofNat i) x2 s3 x4 x5 x6) r := by
          simp only [q43_0_eq, wrap_up i (show i < 9223372036854775807 by omega)]
          exact h2
        cases h1 : sm c with
        | true => exact Ev.yes rfl go
        | false =>
          refine Ev.no rfl (Ev.yes (in_range i _ (by rw [bx_size]; exact hlt)) (v_oB (C_rdigit c) ?_))
          cases h3 : dg c with
          | true => exact Ev.yes rfl go
          | false =>
            refine Ev.no rfl (Ev.yes (in_range i _ (by rw [bx_size]; exact hlt)) (Ev.yes ?_ go))
            rw [beq_iff_eq]
            simp [nm, h1, h3] at hn
            rw [hn]; rfl
      · rw [List.takeWhile_cons_of_neg hn] at h
        have h1 : sm c = false := by
          cases e : sm c
          · rfl
          · exact absurd (sm_nm e) hn
        have h3 : dg c = false := by
          cases e : dg c
          · rfl
          · exact absurd (by simp [nm, e]) hn
        rw [h1]
        refine Ev.no rfl (Ev.yes (in_range i _ (by rw [bx_size]; exact hlt)) (v_oB (C_rdigit c) ?_))
        rw [h3]
        refine Ev.no rfl (Ev.yes (in_range i _ (by rw [bx_size]; exact hlt)) (Ev.no ?_ h))
        rw [beq_eq_false_iff_ne]
        intro e
        refine hn ?_
        have : c.toNat = 95 := by
          have e' : ((c.toNat : Nat) : Int) = 95 := e
          omega
        simp [nm, this]
theorem LR_digits (l : List UInt8) (hl : l.length ≤ 1000000) : ∀ (d i : Nat), i ≤ l.length → l.length - i = d → ∀ r, Ev (fun m k n => q43_6 (Ak k) n (bx l) (Int.ofNat (i + ((l.drop i).takeWhile dg).length)) x2 s3 x4 x5 x6) r →
    Ev (fun m k n => l43_1 m (Ak k) n (bx l) (Int.ofNat i) x2 s3 x4 x5 x6) r := by
  intro d
  induction d with
  | zero =>
    intro i hi hd r h
    rw [List.drop_eq_nil_of_le (by omega)] at h
    refine Ev.step ?_
    simp only [l43_1_eq]
    exact Ev.no (lt_no i _ (by rw [bx_size]; omega)) h
  | succ d ih =>
    intro i hi hd r h
    rcases drop_cases l i hi with ⟨e, _⟩ | ⟨hlt, c, t, hc, ht⟩
    · omega
    · have hb := get_bx l i c t hc
      rw [hc] at h
      refine Ev.step ?_
      simp only [l43_1_eq, hb]
      refine Ev.yes (lt_yes i _ (by rw [bx_size]; exact hlt)) (Ev.yes (in_range i _ (by rw [bx_size]; exact hlt)) ?_)
      refine v_oB (C_rdigit c) ?_
      by_cases hn : dg c = true
      · rw [List.takeWhile_cons_of_pos hn] at h
        refine Ev.yes hn ?_
        simp only [q43_5_eq, wrap_up i (show i < 9223372036854775807 by omega)]
        exact ih (i + 1) (by omega) (by omega) r (by rw [ht]; simpa [Nat.add_assoc, Nat.add_comm 1] using h)
      · rw [List.takeWhile_cons_of_neg hn] at h
        exact Ev.no (by simpa using hn) h
def OneR (f : FuncId) (args : List V) : Lx.R → Prop
  | .ok k w n => Cal f args [] (RV (V.tup [V.agg [iX k, sX w, iX n, iX 0, iX 0], V.one (iX 0)]))
  | .bad e w => ∃ k n, Cal f args [] (RV (V.tup [V.agg [iX k, sX w, iX n, iX 0, iX 0], V.one (iX e)]))
theorem C_rone (l : List UInt8) (hne : l ≠ []) (hl : l.length ≤ 1000000) : OneR 43 [V.one (X.d (D.str (bx l)))] (Lx.tok l) := by
  obtain ⟨c, t, rfl⟩ : ∃ c t, l = c :: t := by cases l with | nil => exact absurd rfl hne | cons c t => exact ⟨c, t, rfl⟩
  have hp : (true && decide ((0 : Int) < Int.ofNat (bx (c :: t)).size)) = true := by rw [Bool.true_and]; exact decide_eq_true (by rw [bx_size]; simp only [List.length_cons, Int.ofNat_eq_natCast]; omega)
  have hp1 : (true && decide ((1 : Int) ≤ Int.ofNat (bx (c :: t)).size) && true && true) = true := by rw [Bool.true_and, Bool.and_true, Bool.and_true]; exact decide_eq_true (by rw [bx_size]; simp only [List.length_cons, Int.ofNat_eq_natCast]; omega)
  have go : ∀ {o : Out}, Ev (fun _ k n => e43 (Ak k) n (bx (c :: t))) o → Cal 43 [V.one (X.d (D.str (bx (c :: t))))] [] o := fun h => call43 _ h
  unfold Lx.tok
  show OneR _ _ (if sm c then _ else if dg c then _ else _)
  by_cases h1 : sm c = true
  · rw [if_pos h1]
    have hn := takeWhile_len nm (c :: t)
    have hle : ((c :: t).takeWhile nm).length ≤ (c :: t).length := (List.takeWhile_sublist nm).length_le
    generalize hw : (c :: t).takeWhile nm = w at hn hle
    have he : (bx (c :: t)).extract 0 (Int.toNat (Int.ofNat w.length)) = bx w := by rw [ext_bx]; show bx (((c :: t).take w.length).drop 0) = _; rw [hn]; rfl
    have key : ∀ {o : Out}, (∀ (x2 : Int) (s3 : ByteArray) (x4 x5 x6 : Int), Ev (fun _ k n => q43_2 (Ak k) n (Int.ofNat w.length) x2 s3 x4 x5 x6 (if isWord w then 2 else 1) (bx w) 0 0 0) o) → Cal 43 [V.one (X.d (D.str (bx (c :: t))))] [] o := fun {o} h => go (by
      simp only [e43_eq, get_bx0]
      refine Ev.yes hp (v_oB (C_rsmall c) (Ev.yes h1 (Ev.diag (LR_word (c :: t) hl _ 0 (by omega) rfl _ ?_))))
      rw [List.drop_zero, Nat.zero_add, hw]
      simp only [q43_1_eq, he]
      refine Ev.yes (cut_ok _ _ hle) (v_oB (C_rword w) ?_)
      cases hi : isWord w with
      | true => have := h 0 (ByteArray.mk #[]) 0 0 0; rw [hi] at this; exact Ev.yes rfl this
      | false => have := h 0 (ByteArray.mk #[]) 0 0 0; rw [hi] at this; exact Ev.no rfl this)
    by_cases h24 : 24 < w.length
    · rw [if_pos h24]
      refine ⟨if isWord w = true then 2 else 1, 0, key fun x2 s3 x4 x5 x6 => ?_⟩
      simp only [q43_2_eq]
      exact Ev.yes (decide_eq_true (by show (24 : Int) < Int.ofNat w.length; simp only [Int.ofNat_eq_natCast]; omega)) (Ev.ret _)
    · rw [if_neg h24]
      have fin : ∀ (x2 : Int) (s3 : ByteArray) (x4 x5 x6 κ : Int), Ev (fun _ k n => q43_2 (Ak k) n (Int.ofNat w.length) x2 s3 x4 x5 x6 κ (bx w) 0 0 0) (RV (V.tup [V.agg [iX κ, sX w, iX 0, iX 0, iX 0], V.one (iX 0)])) := fun x2 s3 x4 x5 x6 κ => by
        simp only [q43_2_eq]
        refine Ev.no (decide_eq_false (by show ¬ (24 : Int) < Int.ofNat w.length; simp only [Int.ofNat_eq_natCast]; omega)) ?_
        exact Ev.of fun m k n => by rw [q43_3_eq]
      by_cases hi : isWord w = true
      · rw [if_pos hi]
        refine key fun x2 s3 x4 x5 x6 => ?_
        rw [if_pos hi]
        exact fin _ _ _ _ _ _
      · rw [if_neg hi]
        refine key fun x2 s3 x4 x5 x6 => ?_
        rw [if_neg hi]
        exact fin _ _ _ _ _ _
  · rw [if_neg h1]
    have h1' : sm c = false := by simpa using h1
    by_cases h2 : dg c = true
    · rw [if_pos h2]
      have hn := takeWhile_len dg (c :: t)
      have hle : ((c :: t).takeWhile dg).length ≤ (c :: t).length := (List.takeWhile_sublist dg).length_le
      have hall : ∀ x ∈ (c :: t).takeWhile dg, dg x = true := fun x hx => mem_takeWhile dg _ x hx
      generalize hw : (c :: t).takeWhile dg = w at hn hle hall
      have he : (bx (c :: t)).extract 0 (Int.toNat (Int.ofNat w.length)) = bx w := by rw [ext_bx]; show bx (((c :: t).take w.length).drop 0) = _; rw [hn]; rfl
      have hnum := C_rnumber w (by omega) hall
      have key : ∀ {o : Out}, (∀ (x2 : Int) (s3 : ByteArray) (x4 x5 x6 : Int), Ev (fun _ k n => q43_6 (Ak k) n (bx (c :: t)) (Int.ofNat w.length) x2 s3 x4 x5 x6) o) → Cal 43 [V.one (X.d (D.str (bx (c :: t))))] [] o := fun {o} h => go (by
        simp only [e43_eq, get_bx0]
        refine Ev.yes hp (v_oB (C_rsmall c) (Ev.no h1' ?_))
        simp only [q43_4_eq, get_bx0]
        refine Ev.yes hp (v_oB (C_rdigit c) (Ev.yes h2 (Ev.diag (LR_digits (c :: t) hl _ 0 (by omega) rfl _ ?_))))
        rw [List.drop_zero, Nat.zero_add, hw]
        exact h _ _ _ _ _)
      unfold numV at hnum
      by_cases hb : 2147483647 < val w
      · rw [if_pos hb]
        rw [if_neg (by omega)] at hnum
        refine ⟨3, 0, key fun x2 s3 x4 x5 x6 => ?_⟩
        simp only [q43_6_eq, he]
        exact Ev.yes (cut_ok _ _ hle) (v_t2oIoB hnum (Ev.yes rfl (Ev.ret _)))
      · rw [if_neg hb]
        rw [if_pos (by omega)] at hnum
        refine key fun x2 s3 x4 x5 x6 => ?_
        simp only [q43_6_eq, he]
        refine Ev.yes (cut_ok _ _ hle) (v_t2oIoB hnum (Ev.no rfl ?_))
        simp only [q43_7_eq]
        exact Ev.ret _
    · rw [if_neg h2]
      have h2' : dg c = false := by simpa using h2
      have key : ∀ {o : Out}, (∀ (x2 : Int) (s3 : ByteArray) (x4 x5 x6 : Int), Ev (fun _ k n => q43_8 (Ak k) n (bx (c :: t)) x2 s3 x4 x5 x6) o) → Cal 43 [V.one (X.d (D.str (bx (c :: t))))] [] o := fun {o} h => go (by
        simp only [e43_eq, get_bx0]
        refine Ev.yes hp (v_oB (C_rsmall c) (Ev.no h1' ?_))
        simp only [q43_4_eq, get_bx0]
        exact Ev.yes hp (v_oB (C_rdigit c) (Ev.no h2' (h _ _ _ _ _))))
      by_cases h3 : sgn (c :: t) = []
      · rw [if_pos h3]
        refine ⟨0, 0, key fun x2 s3 x4 x5 x6 => ?_⟩
        simp only [q43_8_eq]
        refine v_oS (C_rsign (c :: t) (by simp)) ?_
        rw [h3]
        refine Ev.no rfl ?_
        simp only [q43_9_eq]
        refine Ev.yes hp1 (Ev.of fun m k n => ?_)
        rw [ext_bx]
        rfl
      · rw [if_neg h3]
        refine key fun x2 s3 x4 x5 x6 => ?_
        simp only [q43_8_eq]
        refine v_oS (C_rsign (c :: t) (by simp)) (Ev.yes ?_ (Ev.ret _))
        rw [show beqL (bx (sgn (c :: t))).data.toList (ByteArray.mk #[]).data.toList = (sgn (c :: t) == []) from beqL_bx' _ []]
        simpa using h3
end
theorem LR_comment_v1 (l : List UInt8) (hl : l.length ≤ 1000000) (acc : List Tok) (x1 x2 x4 : Int) (s5 : ByteArray) (x6 x7 : Int) (Γ : Bool → SemL) (m0 n0 : Nat) (o : Option Out) : ∀ (d i : Nat), i ≤ l.length → l.length - i = d →
    l15_0_v1 m0 Γ n0 (bx l) (toks acc) x1 x2 (Int.ofNat (i + ((l.drop i).takeWhile nnl).length)) x4 s5 x6 x7 = o → ∀ m, d < m → l15_1_v1 m Γ m0 n0 (bx l) (toks acc) x1 x2 (Int.ofNat i) x4 s5 x6 x7 = o := by
  intro d
  induction d with
  | zero =>
    intro i hi hd h m hm
    rw [List.drop_eq_nil_of_le (by omega)] at h
    obtain ⟨m, rfl⟩ : ∃ m', m = m' + 1 := ⟨m - 1, by omega⟩
    rw [l15_1_v1_eq, lt_no i _ (by rw [bx_size]; omega), cond_false, q15_5_v1_eq]
    exact h
  | succ d ih =>
    intro i hi hd h m hm
    obtain ⟨m, rfl⟩ : ∃ m', m = m' + 1 := ⟨m - 1, by omega⟩
    rcases drop_cases l i hi with ⟨e, _⟩ | ⟨hlt, c, t, hc, ht⟩
    · omega
    · have hb := get_bx l i c t hc
      rw [hc] at h
      rw [l15_1_v1_eq, lt_yes i _ (by rw [bx_size]; exact hlt), cond_true, show decide ((0 : Int) ≤ Int.ofNat i) = true from decide_eq_true (Int.natCast_nonneg i), Bool.true_and, cond_true, hb]
      by_cases hn : c.toNat = 10
      · rw [List.takeWhile_cons_of_neg (by simp [nnl, hn])] at h
        rw [bne, show (Int.ofNat c.toNat == 10) = true from byte_yes (n := 10) hn, Bool.not_true, cond_false, q15_5_v1_eq]
        exact h
      · rw [List.takeWhile_cons_of_pos (by simp [nnl, hn])] at h
        rw [bne, show (Int.ofNat c.toNat == 10) = false from byte_no (n := 10) hn, Bool.not_false, cond_true, q15_4_v1_eq, wrap_up i (by omega)]
        exact ih (i + 1) (by omega) (by omega) (by rw [ht]; simpa [Nat.add_assoc, Nat.add_comm 1] using h) m (by omega)
theorem LR_scan_v1 (l : List UInt8) (hl : l.length ≤ 1000000) (x4 : Int) (s5 : ByteArray) (x6 x7 : Int) : ∀ (d i : Nat), l.length - i < d → i ≤ l.length → ∀ (acc : List Tok) (line : Nat) (b : Nat), b ≤ i → line ≤ i + 1 → acc.length ≤ i →
    Ev (fun m k n => l15_0_v1 m (Ak k) n (bx l) (toks acc) (Int.ofNat line) (Int.ofNat b) (Int.ofNat i) x4 s5 x6 x7) (RV (tokOut acc (scan (l.drop i) (Int.ofNat line) (Int.ofNat i - Int.ofNat b + 1)))) := by
  intro d
  induction d with
  | zero => intro i h; omega
  | succ d ih =>
    intro i hd hi acc line b hb hline ha
    refine Ev.step ?_
    simp only [l15_0_v1_eq]
    rcases drop_cases l i hi with ⟨e, hnil⟩ | ⟨hlt, c, t, hc, ht⟩
    · subst e
      rw [hnil, scan]
      refine Ev.no (lt_no _ _ (by rw [bx_size]; omega)) ?_
      simp only [q15_8_v1_eq, bx_size, col_wrap l.length b hb hl]
      refine Ev.yes (by rw [toks_len]; exact Nat.ble_eq_true_of_le (by show (acc.length + 1) * 49 ≤ _; omega)) (Ev.of fun m k n => ?_)
      show some _ = some (RV (V.tup [V.one (X.d (D.list 5 (toks (acc ++ [_])))), _]))
      rw [toks_app]
      rfl
    · have hget := get_bx l i c t hc
      refine Ev.yes (lt_yes i _ (by rw [bx_size]; exact hlt)) ?_
      simp only [q15_1_v1_eq, hget, wrap_up i (show i < 9223372036854775807 by omega), wrap_up line (show line < 9223372036854775807 by omega)]
      refine Ev.yes (in_range i _ (by rw [bx_size]; exact hlt)) ?_
      rw [hc, scan]
      have next : Ev (fun m k n => l15_0_v1 m (Ak k) n (bx l) (toks acc) (Int.ofNat line) (Int.ofNat b) (Int.ofNat (i + 1)) x4 s5 x6 x7) (RV (tokOut acc (scan t (Int.ofNat line) (Int.ofNat i - Int.ofNat b + 1 + 1)))) := by
        have := ih (i + 1) (by omega) (by omega) acc line b (by omega) (by omega) (by omega)
        rw [ht] at this
        have e1 : Int.ofNat (i + 1) - Int.ofNat b + 1 = Int.ofNat i - Int.ofNat b + 1 + 1 := by simp only [Int.ofNat_eq_natCast]; omega
        rw [e1] at this
        exact this
      by_cases h10 : c.toNat = 10
      · rw [if_pos h10]
        refine Ev.yes (byte_yes (n := 10) h10) ?_
        simp only [q15_2_v1_eq, wrap_up i (show i < 9223372036854775807 by omega)]
        refine Ev.yes (byte_yes (n := 10) h10) ?_
        have := ih (i + 1) (by omega) (by omega) acc (line + 1) (i + 1) (by omega) (by omega) (by omega)
        rw [ht, Int.sub_self] at this
        exact this
      rw [if_neg h10]
      refine Ev.no (byte_no (n := 10) h10) ?_
      simp only [q15_2_v1_eq, wrap_up i (show i < 9223372036854775807 by omega)]
      refine Ev.no (byte_no (n := 10) h10) ?_
      by_cases h13 : c.toNat = 13
      · rw [if_pos (by simp [ws, h13])]
        exact Ev.yes (byte_yes (n := 13) h13) next
      refine Ev.no (byte_no (n := 13) h13) ?_
      by_cases h9 : c.toNat = 9
      · rw [if_pos (by simp [ws, h9])]
        exact Ev.yes (byte_yes (n := 9) h9) next
      refine Ev.no (byte_no (n := 9) h9) ?_
      by_cases h32 : c.toNat = 32
      · rw [if_pos (by simp [ws, h32])]
        exact Ev.yes (byte_yes (n := 32) h32) next
      refine Ev.no (byte_no (n := 32) h32) ?_
      simp only [q15_3_v1_eq]
      rw [if_neg (by simp [ws, h32, h9, h13])]
      by_cases h35 : c.toNat = 35
      · rw [if_pos h35]
        refine Ev.yes (byte_yes (n := 35) h35) ?_
        have hle : (t.takeWhile nnl).length ≤ t.length := (List.takeWhile_sublist nnl).length_le
        have htl : t.length = l.length - i - 1 := by
          have := congrArg List.length hc
          rw [List.length_drop, List.length_cons] at this
          omega
        have hdw : l.drop (i + 1 + (t.takeWhile nnl).length) = t.dropWhile nnl := by
          rw [← List.drop_drop, ht]
          have := List.takeWhile_append_dropWhile (p := nnl) (l := t)
          conv => lhs; rw [← this]
          rw [List.drop_append_of_le_length (by rw [this]; exact Nat.le_refl _) |>.trans (by rw [this])] <;> simp
        have := ih (i + 1 + (t.takeWhile nnl).length) (by omega) (by omega) acc line b (by omega) (by omega) (by omega)
        rw [hdw] at this
        have e1 : Int.ofNat (i + 1 + (t.takeWhile nnl).length) - Int.ofNat b + 1 = Int.ofNat i - Int.ofNat b + 1 + 1 + ((t.takeWhile nnl).length : Int) := by simp only [Int.ofNat_eq_natCast]; omega
        rw [e1] at this
        obtain ⟨K, hK⟩ := this
        refine ⟨K + l.length + 1, fun m k n h1 h2 h3 => ?_⟩
        refine LR_comment_v1 l hl acc _ _ _ _ _ _ (Ak k) m n _ (l.length - i) i hi rfl ?_ m (by omega)
        rw [hc, List.takeWhile_cons_of_pos (by simp [nnl, h35]), List.length_cons]
        rw [show i + ((t.takeWhile nnl).length + 1) = i + 1 + (t.takeWhile nnl).length by omega]
        exact hK m k n (by omega) (by omega) (by omega)
      rw [if_neg h35]
      refine Ev.no (byte_no (n := 35) h35) ?_
      have hext : (bx l).extract (Int.toNat (Int.ofNat i)) (Int.toNat (Int.ofNat l.length)) = bx (c :: t) := by
        rw [ext_bx, ← hc]
        show bx ((l.take l.length).drop i) = _
        rw [List.take_length]
      simp only [q15_6_v1_eq, bx_size, hext]
      refine Ev.yes (by simp only [Int.ofNat_eq_natCast, Bool.and_eq_true, decide_eq_true_eq]; omega) ?_
      have hone := C_rone (c :: t) (by simp) (by rw [← hc, List.length_drop]; omega)
      cases htok : Lx.tok (c :: t) with
      | bad e w =>
        rw [htok] at hone
        obtain ⟨k0, n0, hone⟩ := hone
        refine v_t2a5ISIIIoI hone (Ev.yes (by simpa using tok_bad htok) (Ev.of fun m k n => ?_))
        rw [col_wrap i b hb (by omega)]
        rfl
      | ok κ w n =>
        rw [htok] at hone
        refine v_t2a5ISIIIoI hone (Ev.no rfl ?_)
        have hw := tok_take htok
        have hwl : 1 ≤ w.length := by
          cases w with
          | nil => exact absurd rfl hw.2
          | cons => simp
        have hwle : w.length ≤ (c :: t).length := by
          have := congrArg List.length hw.1
          rw [List.length_take] at this
          omega
        have htl : (c :: t).length = l.length - i := by rw [← hc, List.length_drop]
        have hdr : l.drop (i + w.length) = t.drop (w.length - 1) := by
          rw [← List.drop_drop, hc]
          cases w with
          | nil => exact absurd rfl hw.2
          | cons a w' => rfl
        simp only [q15_7_v1_eq, bx_size, add_wrap i w.length (by omega), col_wrap i b hb (by omega : i ≤ 1000000)]
        refine Eq.subst (motive := fun v => Ev _ (RV v)) (tokOut_cons acc ⟨κ, w, n, Int.ofNat line, Int.ofNat i - Int.ofNat b + 1⟩ (scan (t.drop (w.length - 1)) (Int.ofNat line) (Int.ofNat i - Int.ofNat b + 1 + (w.length : Int)))).symm ?_
        have e1 : Int.ofNat (i + w.length) - Int.ofNat b + 1 = Int.ofNat i - Int.ofNat b + 1 + (w.length : Int) := by simp only [Int.ofNat_eq_natCast]; omega
        have := ih (i + w.length) (by omega) (by omega) (acc ++ [⟨κ, w, n, Int.ofNat line, Int.ofNat i - Int.ofNat b + 1⟩]) line b (by omega) (by omega) (by rw [List.length_append, List.length_singleton]; omega)
        rw [hdr, e1, toks_app] at this
        exact Ev.yes (by rw [toks_len]; exact Nat.ble_eq_true_of_le (by show (acc.length + 1) * 49 ≤ _; omega)) this
theorem LR_comment (l : List UInt8) (hl : l.length ≤ 1000000) (x1 x2 x4 : Int) (s5 : ByteArray) (x6 x7 : Int) (Γ : Bool → SemL) (m0 n0 : Nat) (o : Option Out) : ∀ (d i : Nat), i ≤ l.length → l.length - i = d →
    l15_0 m0 Γ n0 (bx l) x1 x2 (Int.ofNat (i + ((l.drop i).takeWhile nnl).length)) x4 s5 x6 x7 = o → ∀ m, d < m → l15_1 m Γ m0 n0 (bx l) x1 x2 (Int.ofNat i) x4 s5 x6 x7 = o := by
  intro d
  induction d with
  | zero =>
    intro i hi hd h m hm
    rw [List.drop_eq_nil_of_le (by omega)] at h
    obtain ⟨m, rfl⟩ : ∃ m', m = m' + 1 := ⟨m - 1, by omega⟩
    rw [l15_1_eq, lt_no i _ (by rw [bx_size]; omega), cond_false, q15_5_eq]
    exact h
  | succ d ih =>
    intro i hi hd h m hm
    obtain ⟨m, rfl⟩ : ∃ m', m = m' + 1 := ⟨m - 1, by omega⟩
    rcases drop_cases l i hi with ⟨e, _⟩ | ⟨hlt, c, t, hc, ht⟩
    · omega
    · have hb := get_bx l i c t hc
      rw [hc] at h
      rw [l15_1_eq, lt_yes i _ (by rw [bx_size]; exact hlt), cond_true, show decide ((0 : Int) ≤ Int.ofNat i) = true from decide_eq_true (Int.natCast_nonneg i), Bool.true_and, cond_true, hb]
      by_cases hn : c.toNat = 10
      · rw [List.takeWhile_cons_of_neg (by simp [nnl, hn])] at h
        rw [bne, show (Int.ofNat c.toNat == 10) = true from byte_yes (n := 10) hn, Bool.not_true, cond_false, q15_5_eq]
        exact h
      · rw [List.takeWhile_cons_of_pos (by simp [nnl, hn])] at h
        rw [bne, show (Int.ofNat c.toNat == 10) = false from byte_no (n := 10) hn, Bool.not_false, cond_true, q15_4_eq, wrap_up i (by omega)]
        exact ih (i + 1) (by omega) (by omega) (by rw [ht]; simpa [Nat.add_assoc, Nat.add_comm 1] using h) m (by omega)
theorem LR_scan (l : List UInt8) (hl : l.length ≤ 1000000) (x4 : Int) (s5 : ByteArray) (x6 x7 : Int) : ∀ (d i : Nat), l.length - i < d → i ≤ l.length → ∀ (line : Nat) (b : Nat), b ≤ i → line ≤ i + 1 → 
    Ev (fun m k n => l15_0 m (Ak k) n (bx l) (Int.ofNat line) (Int.ofNat b) (Int.ofNat i) x4 s5 x6 x7) (RV (tokOut [] (scan (l.drop i) (Int.ofNat line) (Int.ofNat i - Int.ofNat b + 1)))) := by
  intro d
  induction d with
  | zero => intro i h; omega
  | succ d ih =>
    intro i hd hi line b hb hline
    refine Ev.step ?_
    simp only [l15_0_eq]
    rcases drop_cases l i hi with ⟨e, hnil⟩ | ⟨hlt, c, t, hc, ht⟩
    · subst e
      rw [hnil, scan]
      refine Ev.no (lt_no _ _ (by rw [bx_size]; omega)) ?_
      simp only [q15_8_eq, bx_size, col_wrap l.length b hb hl]
      exact Ev.of fun m k n => rfl
    · have hget := get_bx l i c t hc
      refine Ev.yes (lt_yes i _ (by rw [bx_size]; exact hlt)) ?_
      simp only [q15_1_eq, hget, wrap_up i (show i < 9223372036854775807 by omega), wrap_up line (show line < 9223372036854775807 by omega)]
      refine Ev.yes (in_range i _ (by rw [bx_size]; exact hlt)) ?_
      rw [hc, scan]
      have next : Ev (fun m k n => l15_0 m (Ak k) n (bx l) (Int.ofNat line) (Int.ofNat b) (Int.ofNat (i + 1)) x4 s5 x6 x7) (RV (tokOut [] (scan t (Int.ofNat line) (Int.ofNat i - Int.ofNat b + 1 + 1)))) := by
        have := ih (i + 1) (by omega) (by omega) line b (by omega) (by omega)
        rw [ht] at this
        have e1 : Int.ofNat (i + 1) - Int.ofNat b + 1 = Int.ofNat i - Int.ofNat b + 1 + 1 := by simp only [Int.ofNat_eq_natCast]; omega
        rw [e1] at this
        exact this
      by_cases h10 : c.toNat = 10
      · rw [if_pos h10]
        refine Ev.yes (byte_yes (n := 10) h10) ?_
        simp only [q15_2_eq, wrap_up i (show i < 9223372036854775807 by omega)]
        refine Ev.yes (byte_yes (n := 10) h10) ?_
        have := ih (i + 1) (by omega) (by omega) (line + 1) (i + 1) (by omega) (by omega)
        rw [ht, Int.sub_self] at this
        exact this
      rw [if_neg h10]
      refine Ev.no (byte_no (n := 10) h10) ?_
      simp only [q15_2_eq, wrap_up i (show i < 9223372036854775807 by omega)]
      refine Ev.no (byte_no (n := 10) h10) ?_
      by_cases h13 : c.toNat = 13
      · rw [if_pos (by simp [ws, h13])]
        exact Ev.yes (byte_yes (n := 13) h13) next
      refine Ev.no (byte_no (n := 13) h13) ?_
      by_cases h9 : c.toNat = 9
      · rw [if_pos (by simp [ws, h9])]
        exact Ev.yes (byte_yes (n := 9) h9) next
      refine Ev.no (byte_no (n := 9) h9) ?_
      by_cases h32 : c.toNat = 32
      · rw [if_pos (by simp [ws, h32])]
        exact Ev.yes (byte_yes (n := 32) h32) next
      refine Ev.no (byte_no (n := 32) h32) ?_
      simp only [q15_3_eq]
      rw [if_neg (by simp [ws, h32, h9, h13])]
      by_cases h35 : c.toNat = 35
      · rw [if_pos h35]
        refine Ev.yes (byte_yes (n := 35) h35) ?_
        have hle : (t.takeWhile nnl).length ≤ t.length := (List.takeWhile_sublist nnl).length_le
        have htl : t.length = l.length - i - 1 := by
          have := congrArg List.length hc
          rw [List.length_drop, List.length_cons] at this
          omega
        have hdw : l.drop (i + 1 + (t.takeWhile nnl).length) = t.dropWhile nnl := by
          rw [← List.drop_drop, ht]
          have := List.takeWhile_append_dropWhile (p := nnl) (l := t)
          conv => lhs; rw [← this]
          rw [List.drop_append_of_le_length (by rw [this]; exact Nat.le_refl _) |>.trans (by rw [this])] <;> simp
        have := ih (i + 1 + (t.takeWhile nnl).length) (by omega) (by omega) line b (by omega) (by omega)
        rw [hdw] at this
        have e1 : Int.ofNat (i + 1 + (t.takeWhile nnl).length) - Int.ofNat b + 1 = Int.ofNat i - Int.ofNat b + 1 + 1 + ((t.takeWhile nnl).length : Int) := by simp only [Int.ofNat_eq_natCast]; omega
        rw [e1] at this
        obtain ⟨K, hK⟩ := this
        refine ⟨K + l.length + 1, fun m k n h1 h2 h3 => ?_⟩
        refine LR_comment l hl _ _ _ _ _ _ (Ak k) m n _ (l.length - i) i hi rfl ?_ m (by omega)
        rw [hc, List.takeWhile_cons_of_pos (by simp [nnl, h35]), List.length_cons]
        rw [show i + ((t.takeWhile nnl).length + 1) = i + 1 + (t.takeWhile nnl).length by omega]
        exact hK m k n (by omega) (by omega) (by omega)
      rw [if_neg h35]
      refine Ev.no (byte_no (n := 35) h35) ?_
      have hext : (bx l).extract (Int.toNat (Int.ofNat i)) (Int.toNat (Int.ofNat l.length)) = bx (c :: t) := by
        rw [ext_bx, ← hc]
        show bx ((l.take l.length).drop i) = _
        rw [List.take_length]
      simp only [q15_6_eq, bx_size, hext]
      refine Ev.yes (by simp only [Int.ofNat_eq_natCast, Bool.and_eq_true, decide_eq_true_eq]; omega) ?_
      have hone := C_rone (c :: t) (by simp) (by rw [← hc, List.length_drop]; omega)
      cases htok : Lx.tok (c :: t) with
      | bad e w =>
        rw [htok] at hone
        obtain ⟨k0, n0, hone⟩ := hone
        refine v_t2a5ISIIIoI hone (Ev.yes (by simpa using tok_bad htok) (Ev.of fun m k n => ?_))
        rw [col_wrap i b hb (by omega)]
        rfl
      | ok κ w n =>
        rw [htok] at hone
        refine v_t2a5ISIIIoI hone (Ev.no rfl ?_)
        have hw := tok_take htok
        have hwl : 1 ≤ w.length := by
          cases w with
          | nil => exact absurd rfl hw.2
          | cons => simp
        have hwle : w.length ≤ (c :: t).length := by
          have := congrArg List.length hw.1
          rw [List.length_take] at this
          omega
        have htl : (c :: t).length = l.length - i := by rw [← hc, List.length_drop]
        have hdr : l.drop (i + w.length) = t.drop (w.length - 1) := by
          rw [← List.drop_drop, hc]
          cases w with
          | nil => exact absurd rfl hw.2
          | cons a w' => rfl
        simp only [q15_7_eq, bx_size, add_wrap i w.length (by omega), col_wrap i b hb (by omega : i ≤ 1000000)]
        refine Eq.subst (motive := fun v => Ev _ (RV v)) (tokOut_cons [] ⟨κ, w, n, Int.ofNat line, Int.ofNat i - Int.ofNat b + 1⟩ (scan (t.drop (w.length - 1)) (Int.ofNat line) (Int.ofNat i - Int.ofNat b + 1 + (w.length : Int)))).symm ?_
        have e1 : Int.ofNat (i + w.length) - Int.ofNat b + 1 = Int.ofNat i - Int.ofNat b + 1 + (w.length : Int) := by simp only [Int.ofNat_eq_natCast]; omega
        have := LR_scan_v1 l hl x4 s5 x6 x7 (l.length + 1) (i + w.length) (by omega) (by omega) [⟨κ, w, n, Int.ofNat line, Int.ofNat i - Int.ofNat b + 1⟩] line b (by omega) (by omega) (by simp only [List.length_singleton]; omega)
        rw [hdr, e1] at this
        exact this
theorem C_rtokens (l : List UInt8) : Cal 15 [V.one (X.d (D.str (bx l)))] [] (RV (if 20000 < l.length then V.tup [V.one (X.d (D.list 5 [])), V.agg [iX 2, sX [], iX 0, iX 0]] else tokOut [] (scan l 1 1))) := by
  refine call15 _ ?_
  simp only [e15_eq, bx_size]
  by_cases h : 20000 < l.length
  · rw [if_pos h]
    exact Ev.yes (decide_eq_true (by show (20000 : Int) < Int.ofNat l.length; simp only [Int.ofNat_eq_natCast]; omega)) (Ev.ret _)
  · rw [if_neg h]
    refine Ev.no (decide_eq_false (by show ¬ (20000 : Int) < Int.ofNat l.length; simp only [Int.ofNat_eq_natCast]; omega)) ?_
    simp only [q15_0_eq]
    have := fun (x4 : Int) (s5 : ByteArray) (x6 x7 : Int) => LR_scan l (by omega) x4 s5 x6 x7 (l.length + 1) 0 (by omega) (by omega) 1 0 (by omega) (by omega)
    exact Ev.diag (this _ _ _ _)
end Go.Proofs.YtbmcafehpgimfaaGreat.Ps
namespace Go.Proofs.YtbmcafehpgimfaaGreat.Ps
set_option linter.unusedVariables false
set_option linter.unusedSimpArgs false
open Go Go.RowKit Px
open Lx (Tok tok scan Flt)

abbrev YES : Out := RV (V.one (bX true))
theorem C_awake : Cal 4 [] [] YES := by
  refine ⟨100, fun m k n h1 h2 h3 => ?_⟩
  obtain ⟨k, rfl⟩ : ∃ k', k = k' + 100 := ⟨k - 100, by omega⟩
  exact awake_all k
theorem awake_end {Q : Nat → Nat → Nat → D → Option Out} : Ev (fun m k n => r_oB (Ak k false 4 [] []) (fun c => some (RV (V.one (bX c)))) (Q m k n)) YES := v_oB C_awake (Ev.ret _)
theorem wholeP_eq (l : List Tok) : wholeP l = thenR (pw l .program 0) fun e j => run (pw l) l (.knd 5 (.ret e) .fail) j := run_call _ _ _
theorem run_end {α : Type} (l : List Tok) (a : α) (j : Nat) : run (pw l) l (.knd 5 (.ret a) .fail) j = bif (tk l j).kind == 5 then .ok a j else .no j := by
  rw [run]
  cases (tk l j).kind == 5 <;> rfl
end Go.Proofs.YtbmcafehpgimfaaGreat.Ps
namespace Go.Proofs.YtbmcafehpgimfaaGreat.Ps
set_option linter.unusedVariables false
set_option linter.unusedSimpArgs false
open Go Go.RowKit Px
open Lx (Tok scan Flt)

section
variable (p : Pg)
theorem L_found (x1 x12 : Int) (s13 : ByteArray) (x14 x15 a b : Int) : Ev (fun m k z => l18_0 m (Ak k) z true x1 (Fld.rows p.inputs) (Fnc.rows p.funs) p.query.k p.query.n (bx p.query.name) (strs p.query.names) (ints p.query.odds) (E.rows p.query.kids) p.query.line p.query.col x12 s13 x14 x15 2 (ByteArray.mk #[]) a b) (RV (limV (some (a, b)))) := by
  refine Ev.step ?_
  simp only [l18_0_eq]
  refine Ev.no rfl ?_
  simp only [q18_3_eq]
  exact Ev.no rfl (Ev.of fun m k z => by rw [q18_4_eq]; rfl)
theorem L_rlim (h : wFs p.inputs + wFns p.funs + wE p.query < 9223372036854775807) (x12 : Int) (s13 : ByteArray) (x14 x15 : Int) : ∀ (d i : Nat), i ≤ p.funs.length → p.funs.length - i = d →
    Ev (fun m k z => l18_0 m (Ak k) z false (Int.ofNat i) (Fld.rows p.inputs) (Fnc.rows p.funs) p.query.k p.query.n (bx p.query.name) (strs p.query.names) (ints p.query.odds) (E.rows p.query.kids) p.query.line p.query.col x12 s13 x14 x15 0 (ByteArray.mk #[]) 0 0) (RV (limV (match limFns (p.funs.drop i) with
      | some x => some x
      | none => limE p.query))) := by
  have hl := wFns_len p.funs
  intro d
  induction d with
  | zero =>
    intro i hi hd
    rw [List.drop_eq_nil_of_le (by omega), limFns]
    refine Ev.step ?_
    simp only [l18_0_eq, Fnc.rows_len]
    refine Ev.yes rfl (Ev.no (lt_no i _ (by omega)) ?_)
    simp only [q18_3_eq]
    refine Ev.yes rfl ?_
    have hc := C_rdeep p.query (small_E _ (by omega)) 40 (Nat.le_refl _)
    rw [← limV_E] at hc
    cases hx : limE p.query with
    | none =>
      rw [hx] at hc
      exact v_t2a4ISIIoB hc (Ev.of fun m k z => by rw [q18_4_eq]; rfl)
    | some x =>
      rw [hx] at hc
      exact v_t2a4ISIIoB hc (Ev.of fun m k z => by rw [q18_4_eq]; rfl)
  | succ d ih =>
    intro i hi hd
    have hlt : i < p.funs.length := by omega
    have hat := Fnc.rows_at p.funs i hlt
    rw [Fnc.row_eq] at hat
    have hw := wFns_mem _ _ (List.getElem_mem hlt)
    rw [wFn] at hw
    rw [List.drop_eq_getElem_cons hlt, limFns]
    unfold limFn
    refine Ev.step ?_
    simp only [l18_0_eq, Fnc.rows_len]
    refine Ev.yes rfl (Ev.yes (lt_yes i _ hlt) ?_)
    simp only [q18_0_eq, tn, hat, Fnc.rows_len]
    refine Ev.yes (in_range i _ hlt) ?_
    have hc := C_rfields p.funs[i].params (by omega)
    cases hx : limFs p.funs[i].params with
    | some x =>
      rw [hx] at hc
      refine v_t2a4ISIIoB hc (Ev.no rfl ?_)
      simp only [q18_1_eq]
      refine Ev.no rfl ?_
      simp only [q18_2_eq]
      exact L_found p _ _ _ _ _ _ _
    | none =>
      rw [hx] at hc
      refine v_t2a4ISIIoB hc (Ev.yes rfl ?_)
      have ht := C_rover40 p.funs[i].res (by omega)
      unfold limT
      by_cases hr : 40 < deepT p.funs[i].res
      · rw [decide_eq_true hr] at ht
        rw [if_pos hr]
        exact v_oB ht (Ev.yes rfl (Ev.ret _))
      · rw [decide_eq_false hr] at ht
        rw [if_neg hr]
        refine v_oB ht (Ev.no rfl ?_)
        simp only [q18_1_eq]
        refine Ev.yes rfl ?_
        have he := C_rdeep p.funs[i].body (small_E _ (by omega)) 40 (Nat.le_refl _)
        rw [← limV_E] at he
        cases hy : limE p.funs[i].body with
        | some x =>
          rw [hy] at he
          refine v_t2a4ISIIoB he ?_
          simp only [q18_2_eq]
          exact L_found p _ _ _ _ _ _ _
        | none =>
          rw [hy] at he
          refine v_t2a4ISIIoB he ?_
          simp only [q18_2_eq, wrap_up i (show i < 9223372036854775807 by omega)]
          exact ih (i + 1) (by omega) (by omega)
theorem C_rlimits (h : wFs p.inputs + wFns p.funs + wE p.query < 9223372036854775807) : Cal 18 [pV p] [] (RV (limV (limP p))) := by
  refine call18 _ _ _ _ _ _ _ _ _ _ ?_
  simp only [e18_eq]
  have hc := C_rfields p.inputs (by omega)
  unfold limP
  cases hx : limFs p.inputs with
  | some x =>
    rw [hx] at hc
    exact v_t2a4ISIIoB hc (Ev.diag (L_found p _ _ _ _ _ _ _))
  | none =>
    rw [hx] at hc
    exact v_t2a4ISIIoB hc (Ev.diag (L_rlim p h _ _ _ _ _ 0 (Nat.zero_le _) rfl))
end
theorem C_rProgram (s : List UInt8) : Cal 6 [V.one (X.d (D.str (bx s)))] [] (RV (V.tup [pV (progF s).1, V.agg (fltX (progF s).2)])) := by
  have htok := C_rtokens s
  refine call6 _ ?_
  simp only [e6_eq]
  unfold progF
  have nil : ∀ f : Flt, RV (V.tup [pV noP, V.agg (fltX f)]) = RV (V.tup [V.agg [X.d (D.list 5 []), X.d (D.list 14 []), X.d (D.int IntKind.i64 0), X.d (D.int IntKind.i64 0), X.d (D.str (ByteArray.mk #[])), X.d (D.list 1 []), X.d (D.list 1 []), X.d (D.list 8 []), X.d (D.int IntKind.i64 0), X.d (D.int IntKind.i64 0)], V.agg (fltX f)]) := fun f => by unfold pV pX noP noE; simp only [E.kids, E.rows_nil]; rfl
  by_cases hs : 20000 < s.length
  · rw [if_pos hs] at htok ⊢
    rw [nil]
    exact v_t2oL5a4ISII htok (Ev.yes rfl (Ev.ret _))
  rw [if_neg hs] at htok ⊢
  cases hsc : scan s 1 1 with
  | error g =>
    rw [hsc] at htok
    have hb := scan_bad _ s 1 1 g (Nat.lt_succ_self _) hsc
    simp only
    rw [nil]
    exact v_t2oL5a4ISII htok (Ev.yes (by simpa using hb) (Ev.ret _))
  | ok l =>
    rw [hsc] at htok
    have hfew := scan_few (by omega) hsc
    have gl := hfew.1.good
    show Ev _ (RV (V.tup [pV (progL_ l).1, V.agg (fltX (progL_ l).2)]))
    refine v_t2oL5a4ISII htok (Ev.no rfl ?_)
    simp only [q6_0_eq]
    have hR := rprogram_ok hfew.1 hfew.2.1 0 hfew.2.2
    unfold progL_
    rw [wholeP_eq]
    cases hp : pw l .program 0 with
    | out => exact absurd hp (pw_ends gl _ 0 hfew.2.2)
    | no j =>
      rw [hp] at hR
      have hj := pw_no gl hfew.2.2 hp
      obtain ⟨v, ⟨p1, p2, k, n, s', a, b, c, x, y, rfl⟩, hR⟩ := hR
      show Ev _ (RV (V.tup [pV noP, V.agg (fltX (tokF (tk l j)))]))
      rw [nil]
      refine v_a10L5L14IISL1L1L8II_L5IB hR (Ev.yes rfl ?_)
      exact v_a4ISII_L5IB (C_rfault hj true) (Ev.ret _)
    | ok a j =>
      rw [hp] at hR
      have hj := pw_ok gl hfew.2.2 hp
      refine v_a10L5L14IISL1L1L8II_L5IB hR (Ev.no rfl ?_)
      simp only [toks_len, tn, toks_at l j hj.2]
      refine Ev.yes (in_range j _ hj.2) (Ev.yes rfl ?_)
      rw [show thenR (Rs.ok a j) (fun e j => run (pw l) l (.knd 5 (.ret e) .fail) j) = (bif (tk l j).kind == 5 then .ok a j else .no j) from run_end l a j]
      show Ev (fun m κ n => bif (tk l j).kind != 5 then _ else _) _
      cases hk : (tk l j).kind == 5 with
      | false =>
        refine Ev.yes (by rw [bne, hk]; rfl) ?_
        show Ev _ (RV (V.tup [pV noP, V.agg (fltX (tokF (tk l j)))]))
        rw [nil]
        exact v_a4ISII_L5IB (C_rfault hj.2 false) (Ev.ret _)
      | true =>
        refine Ev.no (by rw [bne, hk]; rfl) ?_
        have h3 : wFs a.inputs + wFns a.funs + wE a.query + 0 ≤ 0 + j := pw_wt hp
        have h5 := hfew.1.len
        have hd := C_rlimits a (by omega)
        simp only [q6_1_eq, cond_true]
        cases hx : limP a with
        | some y =>
          rw [hx] at hd
          refine v_t2a4ISIIoB hd (Ev.yes rfl ?_)
          show Ev _ (RV (V.tup [pV noP, V.agg (fltX (limF (y.1, y.2)))]))
          rw [nil]
          exact Ev.ret _
        | none =>
          rw [hx] at hd
          refine v_t2a4ISIIoB hd (Ev.no rfl ?_)
          simp only [q6_2_eq]
          exact Ev.ret _
theorem progF_small (s : List UInt8) : wFs (progF s).1.inputs + wFns (progF s).1.funs + wE (progF s).1.query ≤ 1000000 := by
  have hn : wFs noP.inputs + wFns noP.funs + wE noP.query ≤ 1000000 := by
    show 0 + 0 + wE noE ≤ 1000000
    unfold noE; rw [wE_mk, wEs_nil]; decide
  unfold progF
  by_cases hs : 20000 < s.length
  · rw [if_pos hs]; exact hn
  rw [if_neg hs]
  cases hsc : scan s 1 1 with
  | error g => exact hn
  | ok l =>
    have hfew := scan_few (by omega) hsc
    simp only
    unfold progL_
    cases hw : wholeP l with
    | out => exact hn
    | no j => exact hn
    | ok a j =>
      simp only
      cases hx : limP a with
      | some x => exact hn
      | none =>
        rw [wholeP_eq] at hw
        cases hp : pw l .program 0 with
        | out => rw [hp] at hw; cases hw
        | no k => rw [hp] at hw; cases hw
        | ok b k =>
          rw [hp] at hw
          have h5 : wFs b.inputs + wFns b.funs + wE b.query + 0 ≤ 0 + k := pw_wt hp
          have h6 := (pw_ok hfew.1.good hfew.2.2 hp).2
          have h7 := hfew.1.len
          have e : thenR (Rs.ok b k) (fun e j => run (pw l) l (.knd 5 (.ret e) .fail) j) = (bif (tk l k).kind == 5 then .ok b k else .no k) := run_end l b k
          rw [e] at hw
          cases hk : (tk l k).kind == 5 with
          | false => rw [hk] at hw; cases hw
          | true =>
            rw [hk] at hw
            cases hw
            show wFs a.inputs + wFns a.funs + wE a.query ≤ 1000000
            omega
end Go.Proofs.YtbmcafehpgimfaaGreat.Ps
namespace Go.Proofs.YtbmcafehpgimfaaGreat.Ps
set_option linter.unusedVariables false
set_option linter.unusedSimpArgs false
open Go Go.RowKit Px
open Lx (Tok)

theorem strs_at (ks : List (List UInt8)) (i : Nat) (h : i < ks.length) : (strs ks).getD i [] = [D.str (bx ks[i])] := by
  unfold strs
  rw [rows_getD _ _ _ h, List.getD_eq_getElem?_getD, List.getElem?_eq_getElem h]
  rfl
theorem ints_at (ks : List Int) (i : Nat) (h : i < ks.length) : (ints ks).getD i [] = [D.int IntKind.i64 ks[i]] := by
  unfold ints
  rw [rows_getD _ _ _ h, List.getD_eq_getElem?_getD, List.getElem?_eq_getElem h]
  rfl
abbrev PEX (e : E) (F : Int → Int → ByteArray → List (List D) → List (List D) → List (List D) → Int → Int → Option Out) : Option Out := F e.k e.n (bx e.name) (strs e.names) (ints e.odds) (E.rows e.kids) e.line e.col
theorem ne_self (a : Int) : (a != a) = false := by simp
theorem beqL_self (s : ByteArray) : beqL s.data.toList s.data.toList = true := by rw [beqL_eq]; simp
theorem lpc2 (e : E) (hk : e.kids.length < 9223372036854775807) (H : ∀ x ∈ e.kids, Cal 20 [eV x, eV x] [] (RV (V.one (bX true)))) : ∀ (d i : Nat), i ≤ e.kids.length → e.kids.length - i = d →
    Ev (fun m k n => l20_2 m (Ak k) n (Int.ofNat i) e.k e.n (bx e.name) (strs e.names) (ints e.odds) (E.rows e.kids) e.line e.col e.k e.n (bx e.name) (strs e.names) (ints e.odds) (E.rows e.kids) e.line e.col) (RV (V.one (bX true))) := by
  intro d
  induction d with
  | zero =>
    intro i hi hd
    refine Ev.step ?_
    simp only [l20_2_eq, E.rows_len]
    exact Ev.no (lt_no i _ (by omega)) (Ev.of fun m k n => by rw [q20_9_eq])
  | succ d ih =>
    intro i hi hd
    have hlt : i < e.kids.length := by omega
    have hat := E.rows_at e.kids i hlt
    rw [E.row_eq] at hat
    refine Ev.step ?_
    simp only [l20_2_eq, E.rows_len]
    refine Ev.yes (lt_yes i _ hlt) ?_
    simp only [q20_7_eq, tn, hat, E.rows_len]
    refine Ev.yes (in_range i _ hlt) (Ev.yes (in_range i _ hlt) ?_)
    refine v_oB (H e.kids[i] (List.getElem_mem hlt)) (Ev.no rfl ?_)
    simp only [q20_8_eq, wrap_up i (show i < 9223372036854775807 by omega)]
    exact ih (i + 1) (by omega) (by omega)
theorem lpc1 (e : E) (ho : e.odds.length < 9223372036854775807) {r : Out} (hr : Ev (fun m k n => l20_2 m (Ak k) n 0 e.k e.n (bx e.name) (strs e.names) (ints e.odds) (E.rows e.kids) e.line e.col e.k e.n (bx e.name) (strs e.names) (ints e.odds) (E.rows e.kids) e.line e.col) r) : ∀ (d i : Nat), i ≤ e.odds.length → e.odds.length - i = d →
    Ev (fun m k n => l20_1 m (Ak k) n (Int.ofNat i) e.k e.n (bx e.name) (strs e.names) (ints e.odds) (E.rows e.kids) e.line e.col e.k e.n (bx e.name) (strs e.names) (ints e.odds) (E.rows e.kids) e.line e.col) r := by
  intro d
  induction d with
  | zero =>
    intro i hi hd
    refine Ev.step ?_
    simp only [l20_1_eq, ints_len]
    refine Ev.no (lt_no i _ (by omega)) ?_
    simp only [q20_6_eq]
    exact Ev.diag hr
  | succ d ih =>
    intro i hi hd
    have hlt : i < e.odds.length := by omega
    have hat := ints_at e.odds i hlt
    refine Ev.step ?_
    simp only [l20_1_eq, ints_len]
    refine Ev.yes (lt_yes i _ hlt) ?_
    simp only [q20_4_eq, tn, hat, ints_len, ne_self]
    refine Ev.yes (in_range i _ hlt) (Ev.yes (in_range i _ hlt) (Ev.yes rfl (Ev.yes rfl (Ev.no rfl ?_))))
    simp only [q20_5_eq, wrap_up i (show i < 9223372036854775807 by omega)]
    exact ih (i + 1) (by omega) (by omega)
theorem lpc0 (e : E) (ho : e.names.length < 9223372036854775807) {r : Out} (hr : Ev (fun m k n => l20_1 m (Ak k) n 0 e.k e.n (bx e.name) (strs e.names) (ints e.odds) (E.rows e.kids) e.line e.col e.k e.n (bx e.name) (strs e.names) (ints e.odds) (E.rows e.kids) e.line e.col) r) : ∀ (d i : Nat), i ≤ e.names.length → e.names.length - i = d →
    Ev (fun m k n => l20_0 m (Ak k) n (Int.ofNat i) e.k e.n (bx e.name) (strs e.names) (ints e.odds) (E.rows e.kids) e.line e.col e.k e.n (bx e.name) (strs e.names) (ints e.odds) (E.rows e.kids) e.line e.col) r := by
  intro d
  induction d with
  | zero =>
    intro i hi hd
    refine Ev.step ?_
    simp only [l20_0_eq, strs_len]
    refine Ev.no (lt_no i _ (by omega)) ?_
    simp only [q20_3_eq]
    exact Ev.diag hr
  | succ d ih =>
    intro i hi hd
    have hlt : i < e.names.length := by omega
    have hat := strs_at e.names i hlt
    refine Ev.step ?_
    simp only [l20_0_eq, strs_len]
    refine Ev.yes (lt_yes i _ hlt) ?_
    simp only [q20_1_eq, tn, hat, strs_len, beqL_self]
    refine Ev.yes (in_range i _ hlt) (Ev.yes (in_range i _ hlt) (Ev.yes rfl (Ev.yes rfl (Ev.no rfl ?_))))
    simp only [q20_2_eq, wrap_up i (show i < 9223372036854775807 by omega)]
    exact ih (i + 1) (by omega) (by omega)
mutual
theorem C_placed : ∀ (e : E), wE e < 9223372036854775807 → Cal 20 [eV e, eV e] [] (RV (V.one (bX true)))
  | .mk k n s ns os ks a b, h => by
    have h0 := h
    rw [wE] at h
    have hkl := wEs_len ks
    have H := C_placedAll ks (by omega)
    refine call20 _ _ _ _ _ _ _ _ _ _ _ _ _ _ _ _ ?_
    simp only [e20_eq, ne_self, beqL_self]
    refine Ev.no rfl (Ev.no rfl (Ev.no rfl (Ev.no rfl (Ev.no rfl (Ev.no rfl (Ev.no rfl (Ev.no rfl ?_)))))))
    simp only [q20_0_eq]
    have h2 := lpc2 (.mk k n s ns os ks a b) (show ks.length < _ by omega) H _ 0 (Nat.zero_le _) rfl
    have h1 := lpc1 (.mk k n s ns os ks a b) (show os.length < _ by omega) h2 _ 0 (Nat.zero_le _) rfl
    exact Ev.diag (lpc0 (.mk k n s ns os ks a b) (show ns.length < _ by omega) h1 _ 0 (Nat.zero_le _) rfl)
theorem C_placedAll : ∀ (ks : List E), wEs ks < 9223372036854775807 → ∀ x ∈ ks, Cal 20 [eV x, eV x] [] (RV (V.one (bX true)))
  | [], _, x, hx => by cases hx
  | y :: r, hs, x, hx => by
    rw [wEs] at hs
    rcases List.mem_cons.1 hx with h | h
    · rw [h]; exact C_placed y (by omega)
    · exact C_placedAll r (by omega) x h
end

theorem lat (k : Int) (l : List T) (hl : l.length < 9223372036854775807) (H : ∀ x ∈ l, Cal 21 [tV x, tV x] [] (RV (V.one (bX true)))) : ∀ (d i : Nat), i ≤ l.length → l.length - i = d →
    Ev (fun m κ n => l21_0 m (Ak κ) n (Int.ofNat i) k (T.rows l) k (T.rows l)) (RV (V.one (bX true))) := by
  intro d
  induction d with
  | zero =>
    intro i hi hd
    refine Ev.step ?_
    simp only [l21_0_eq, T.rows_len]
    exact Ev.no (lt_no i _ (by omega)) (Ev.of fun m k n => by rw [q21_3_eq])
  | succ d ih =>
    intro i hi hd
    have hlt : i < l.length := by omega
    have hat := T.rows_at l i hlt
    rw [T.row_eq] at hat
    refine Ev.step ?_
    simp only [l21_0_eq, T.rows_len]
    refine Ev.yes (lt_yes i _ hlt) ?_
    simp only [q21_1_eq, tn, hat, T.rows_len]
    refine Ev.yes (in_range i _ hlt) (Ev.yes (in_range i _ hlt) ?_)
    refine v_oB (H l[i] (List.getElem_mem hlt)) (Ev.no rfl ?_)
    simp only [q21_2_eq, wrap_up i (show i < 9223372036854775807 by omega)]
    exact ih (i + 1) (by omega) (by omega)
mutual
theorem C_alikeT : ∀ (t : T), wT t < 9223372036854775807 → Cal 21 [tV t, tV t] [] (RV (V.one (bX true)))
  | .mk k l, h => by
    rw [wT] at h
    have hl := wTs_len l
    have H := C_alikeTs l (by omega)
    refine call21 _ _ _ _ ?_
    simp only [e21_eq, ne_self]
    refine Ev.no rfl (Ev.no rfl ?_)
    simp only [q21_0_eq]
    exact Ev.diag (lat k l (by omega) H _ 0 (Nat.zero_le _) rfl)
theorem C_alikeTs : ∀ (l : List T), wTs l < 9223372036854775807 → ∀ x ∈ l, Cal 21 [tV x, tV x] [] (RV (V.one (bX true)))
  | [], _, x, hx => by cases hx
  | y :: r, h, x, hx => by
    rw [wTs] at h
    rcases List.mem_cons.1 hx with e | e
    · rw [e]; exact C_alikeT y (by omega)
    · exact C_alikeTs r (by omega) x e
end
theorem C_placedF (fs : List Fld) (h : wFs fs < 9223372036854775807) : Cal 19 [V.one (X.d (D.list 5 (Fld.rows fs))), V.one (X.d (D.list 5 (Fld.rows fs)))] [] (RV (V.one (bX true))) := by
  refine call19 _ _ ?_
  simp only [e19_eq, ne_self]
  refine Ev.no rfl ?_
  have hl := wFs_len fs
  simp only [q19_0_eq]
  have key : ∀ (d i : Nat), i ≤ fs.length → fs.length - i = d → Ev (fun m κ n => l19_0 m (Ak κ) n (Fld.rows fs) (Fld.rows fs) (Int.ofNat i)) (RV (V.one (bX true))) := by
    intro d
    induction d with
    | zero =>
      intro i hi hd
      refine Ev.step ?_
      simp only [l19_0_eq, Fld.rows_len]
      exact Ev.no (lt_no i _ (by omega)) (Ev.of fun m k n => by rw [q19_3_eq])
    | succ d ih =>
      intro i hi hd
      have hlt : i < fs.length := by omega
      have hat := Fld.rows_at fs i hlt
      rw [show Fld.row fs[i] = [D.str (bx fs[i].name), D.int IntKind.i64 fs[i].typ.k, D.list 2 (T.rows fs[i].typ.l), D.int IntKind.i64 fs[i].line, D.int IntKind.i64 fs[i].col] from rfl] at hat
      have hw := wFs_mem fs _ (List.getElem_mem hlt)
      have hr := in_range i fs.length hlt
      refine Ev.step ?_
      simp only [l19_0_eq, Fld.rows_len]
      refine Ev.yes (lt_yes i _ hlt) ?_
      simp only [q19_1_eq, tn, hat, Fld.rows_len, List.getD_cons_succ, List.getD_cons_zero]
      refine Ev.yes hr (Ev.yes hr (Ev.yes rfl (Ev.yes rfl (Ev.no ?_ (Ev.yes hr (Ev.yes hr (Ev.yes rfl (Ev.yes rfl (Ev.no (ne_self _) (Ev.yes hr (Ev.yes hr (Ev.yes rfl (Ev.yes rfl (Ev.no (ne_self _) (Ev.yes hr (Ev.yes hr ?_))))))))))))))))
      · show (!beqL (bx fs[i].name).data.toList (bx fs[i].name).data.toList) = false
        rw [beqL_self]; rfl
      refine v_oB (C_alikeT fs[i].typ (by omega)) (Ev.no rfl ?_)
      simp only [q19_2_eq, wrap_up i (show i < 9223372036854775807 by omega)]
      exact ih (i + 1) (by omega) (by omega)
  exact Ev.diag (key _ 0 (Nat.zero_le _) rfl)
theorem C_placedP (p : Pg) (h : wFs p.inputs + wFns p.funs + wE p.query < 9223372036854775807) : Cal 7 [pV p, pV p] [] (RV (V.one (bX true))) := by
  refine call7 _ _ _ _ _ _ _ _ _ _ _ _ _ _ _ _ _ _ _ _ ?_
  simp only [e7_eq, ne_self]
  refine v_oB (C_placedF p.inputs (by omega)) (Ev.no rfl (Ev.no rfl ?_))
  refine v_oB (C_placed p.query (by omega)) (Ev.no rfl ?_)
  have hl := wFns_len p.funs
  simp only [q7_0_eq]
  have key : ∀ (d i : Nat), i ≤ p.funs.length → p.funs.length - i = d → Ev (fun m κ n => l7_0 m (Ak κ) n (Int.ofNat i) (Fld.rows p.inputs) (Fnc.rows p.funs) p.query.k p.query.n (bx p.query.name) (strs p.query.names) (ints p.query.odds) (E.rows p.query.kids) p.query.line p.query.col (Fld.rows p.inputs) (Fnc.rows p.funs) p.query.k p.query.n (bx p.query.name) (strs p.query.names) (ints p.query.odds) (E.rows p.query.kids) p.query.line p.query.col) (RV (V.one (bX true))) := by
    intro d
    induction d with
    | zero =>
      intro i hi hd
      refine Ev.step ?_
      simp only [l7_0_eq, Fnc.rows_len]
      exact Ev.no (lt_no i _ (by omega)) (Ev.of fun m k n => by rw [q7_3_eq])
    | succ d ih =>
      intro i hi hd
      have hlt : i < p.funs.length := by omega
      have hat := Fnc.rows_at p.funs i hlt
      rw [Fnc.row_eq] at hat
      have hw := wFns_mem _ _ (List.getElem_mem hlt)
      rw [wFn] at hw
      have hr := in_range i p.funs.length hlt
      refine Ev.step ?_
      simp only [l7_0_eq, Fnc.rows_len]
      refine Ev.yes (lt_yes i _ hlt) ?_
      simp only [q7_1_eq, tn, hat, Fnc.rows_len, List.getD_cons_succ, List.getD_cons_zero]
      refine Ev.yes hr (Ev.yes hr (Ev.yes rfl (Ev.yes rfl (Ev.no ?_ (Ev.yes rfl (Ev.yes rfl (Ev.no (ne_self _) (Ev.yes rfl (Ev.yes rfl (Ev.no (ne_self _) ?_))))))))))
      · show (!beqL (bx p.funs[i].name).data.toList (bx p.funs[i].name).data.toList) = false
        rw [beqL_self]; rfl
      refine v_oB (C_placedF p.funs[i].params (by omega)) (Ev.no rfl ?_)
      refine v_oB (C_alikeT p.funs[i].res (by omega)) (Ev.no rfl ?_)
      refine v_oB (C_placed p.funs[i].body (by omega)) (Ev.no rfl ?_)
      simp only [q7_2_eq, wrap_up i (show i < 9223372036854775807 by omega)]
      exact ih (i + 1) (by omega) (by omega)
  exact Ev.diag (key _ 0 (Nat.zero_le _) rfl)

theorem lawPrograms (s : List UInt8) : Cal 3 [V.one (X.d (D.str (bx s)))] [] YES := by
  refine call3 _ ?_
  simp only [e3_eq, bx_size]
  by_cases hs : 20100 < s.length
  · exact Ev.yes (decide_eq_true (by show (20100 : Int) < Int.ofNat s.length; simp only [Int.ofNat_eq_natCast]; omega)) awake_end
  refine Ev.no (decide_eq_false (by show ¬ (20100 : Int) < Int.ofNat s.length; simp only [Int.ofNat_eq_natCast]; omega)) ?_
  simp only [q3_0_eq]
  refine v_t2a10L5L14IISL1L1L8IIa4ISII (C_Program s) ?_
  refine v_t2a10L5L14IISL1L1L8IIa4ISII (C_rProgram s) ?_
  have := progF_small s
  refine v_oB (C_placedP (progF s).1 (by omega)) (Ev.yes rfl (Ev.yes ?_ awake_end))
  show ((progF s).2.e == (progF s).2.e && (beqL (bx (progF s).2.text).data.toList (bx (progF s).2.text).data.toList && ((progF s).2.line == (progF s).2.line && ((progF s).2.col == (progF s).2.col && true)))) = true
  rw [beqL_self]
  simp
end Go.Proofs.YtbmcafehpgimfaaGreat.Ps
