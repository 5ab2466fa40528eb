/- The limits on types and programs. -/
import Derived.Test.YtbmcafehpgimfaaSq
namespace Go.Proofs.Ytbmcafehpgimfaa.Ps
set_option linter.unusedVariables false
set_option linter.unusedSimpArgs false
open Go Go.RowKit Px
open Lx (Tok)

/-! Every list within is short. -/
mutual
def SmallT : T → Prop
  | .mk _ l => l.length < 9223372036854775807 ∧ SmallTs l
def SmallTs : List T → Prop
  | [] => True
  | x :: r => SmallT x ∧ SmallTs r
end
theorem deepTs_step (ks : List T) (i : Nat) (h : i < ks.length) (a : Int) : deepTs (ks.drop i) a = deepTs (ks.drop (i + 1)) (big a (deepT ks[i])) := by
  rw [List.drop_eq_getElem_cons h, deepTs]
theorem L_deepT (ks : List T) (hk : ks.length < 9223372036854775807) (H : ∀ x ∈ ks, Cal 75 [tV x] [] (RV (nV (deepT x)))) : ∀ (d i : Nat) (a : Int), i ≤ ks.length → ks.length - i = d →
    Ev (fun m k z => l75_0 m (Ak k) z a (T.rows ks) (Int.ofNat ks.length) (Int.ofNat i)) (RV (nV (IntKind.wrap .i64 (deepTs (ks.drop i) a + 1)))) := by
  intro d
  induction d with
  | zero =>
    intro i a hi hd
    rw [List.drop_eq_nil_of_le (by omega), deepTs]
    refine Ev.step ?_
    simp only [l75_0_eq]
    refine Ev.no (lt_no i _ (by omega)) ?_
    simp only [q75_2_eq]
    exact Ev.ret _
  | succ d ih =>
    intro i a hi hd
    have hlt : i < ks.length := by omega
    have hat := T.rows_at ks i hlt
    rw [T.row_eq] at hat
    rw [deepTs_step ks i hlt]
    refine Ev.step ?_
    simp only [l75_0_eq]
    refine Ev.yes (lt_yes i _ hlt) ?_
    simp only [q75_0_eq, tn, hat]
    refine Ev.yes (in_range i _ (by rw [T.rows_len]; exact hlt)) ?_
    have hc := H ks[i] (List.getElem_mem hlt)
    refine v_oI hc ?_
    simp only [q75_1_eq, wrap_up i (show i < 9223372036854775807 by omega)]
    exact ih (i + 1) _ (by omega) (by omega)
mutual
theorem C_deepT : ∀ (t : T), SmallT t → Cal 75 [tV t] [] (RV (nV (deepT t)))
  | .mk k l, hs => by
    rw [SmallT] at hs
    rw [deepT_eq]
    refine call75 _ _ ?_
    simp only [e75_eq]
    have := Ev.diag (L_deepT l hs.1 (C_deepTs l hs.2) _ 0 0 (Nat.zero_le _) rfl)
    have e1 : Int.ofNat (T.rows (T.mk k l).l).length = Int.ofNat l.length := congrArg Int.ofNat (T.rows_len l)
    rw [e1]
    exact this
theorem C_deepTs : ∀ (ks : List T), SmallTs ks → ∀ x ∈ ks, Cal 75 [tV x] [] (RV (nV (deepT x)))
  | [], _, x, hx => by cases hx
  | y :: r, hs, x, hx => by
    rw [SmallTs] at hs
    rcases List.mem_cons.1 hx with h | h
    · rw [h]; exact C_deepT y hs.1
    · exact C_deepTs r hs.2 x h
end
theorem C_limT (t : T) (hs : SmallT t) (a b : Int) : Cal 74 [tV t, nV a, nV b] [] (RV (V.agg (limX (limT t a b)))) := by
  refine call74 _ _ _ _ ?_
  simp only [e74_eq]
  refine v_oI (C_deepT t hs) ?_
  unfold limT
  by_cases h : 40 < deepT t
  · rw [if_pos h]
    exact Ev.yes (decide_eq_true h) (Ev.ret _)
  · rw [if_neg h]
    exact Ev.no (decide_eq_false h) (Ev.of fun m k n => by rw [q74_0_eq]; rfl)
/-- The same for all of a list, from some fuel on. -/
theorem cal_all {α : Type} {l : List α} {f : FuncId} {args : α → List V} {o : α → Out} (h : ∀ x ∈ l, Cal f (args x) [] (o x)) : ∃ K, ∀ k, K ≤ k → ∀ x ∈ l, Ak k false f (args x) [] = some (o x) := by
  induction l with
  | nil => exact ⟨0, fun _ _ x hx => by cases hx⟩
  | cons y r ih =>
    obtain ⟨K, hK⟩ := ih fun x hx => h x (List.mem_cons_of_mem _ hx)
    obtain ⟨L, hL⟩ := h y (List.mem_cons_self ..)
    refine ⟨K + L, fun k hk x hx => ?_⟩
    rcases List.mem_cons.1 hx with rfl | hx
    · exact hL k k k (by omega) (by omega) (by omega)
    · exact hK k (by omega) x hx
theorem Fld.rows_at (ks : List Fld) (i : Nat) (h : i < ks.length) : (Fld.rows ks).getD i [] = Fld.row ks[i] := by
  have : Inhabited Fld := ⟨⟨[], .mk 0 [], 0, 0⟩⟩
  unfold Fld.rows
  rw [rows_getD _ _ _ h, List.getD_eq_getElem?_getD, List.getElem?_eq_getElem h]
  rfl
theorem Fnc.rows_at (ks : List Fnc) (i : Nat) (h : i < ks.length) : (Fnc.rows ks).getD i [] = Fnc.row ks[i] := by
  have : Inhabited Fnc := ⟨⟨[], [], .mk 0 [], noE, 0, 0⟩⟩
  unfold Fnc.rows
  rw [rows_getD _ _ _ h, List.getD_eq_getElem?_getD, List.getElem?_eq_getElem h]
  rfl
theorem limFs_drop (ks : List Fld) (i : Nat) (h : i < ks.length) : limFs (ks.drop i) = match limT ks[i].typ ks[i].line ks[i].col with | some x => some x | none => limFs (ks.drop (i + 1)) := by
  rw [List.drop_eq_getElem_cons h, limFs]
  rfl
theorem limFns_drop (ks : List Fnc) (i : Nat) (h : i < ks.length) : limFns (ks.drop i) = match limFn ks[i] with | some x => some x | none => limFns (ks.drop (i + 1)) := by
  rw [List.drop_eq_getElem_cons h, limFns]
  rfl
section
variable (p : Pg) (x13 x15 x16 : Int) (s14 : ByteArray)
theorem L_params (f : Fnc) (hk : f.params.length < 9223372036854775807) (Γ : Bool → SemL) (m' n : Nat) (r0 : List (List D)) (x1 x2 : Int)
    (H : ∀ x ∈ f.params, Γ false 74 [tV x.typ, nV x.line, nV x.col] [] = some (RV (V.agg (limX (limT x.typ x.line x.col))))) : ∀ (d i : Nat), i ≤ f.params.length → f.params.length - i = d → ∀ m, d < m →
    l46_2 m Γ m' n r0 x1 x2 (D.list 5 (Fld.rows f.params)) (Int.ofNat f.params.length) (Int.ofNat i) (Fld.rows p.inputs) (Fnc.rows p.funs) p.query.k p.query.n (bx p.query.name) (strs p.query.names) (ints p.query.odds) (E.rows p.query.kids) p.query.line p.query.col x13 s14 x15 x16 (D.str (bx f.name)) (D.list 5 (Fld.rows f.params)) (D.int IntKind.i64 f.res.k) (D.list 2 (T.rows f.res.l)) (D.int IntKind.i64 f.body.k) (D.int IntKind.i64 f.body.n) (D.str (bx f.body.name)) (D.list 1 (strs f.body.names)) (D.list 1 (ints f.body.odds)) (D.list 8 (E.rows f.body.kids)) (D.int IntKind.i64 f.body.line) (D.int IntKind.i64 f.body.col) (D.int IntKind.i64 f.line) (D.int IntKind.i64 f.col) =
    match limFs (f.params.drop i) with
    | some x => some (RV (V.agg (limX (some x))))
    | none => q46_6 Γ m' n r0 x1 x2 (Fld.rows p.inputs) (Fnc.rows p.funs) p.query.k p.query.n (bx p.query.name) (strs p.query.names) (ints p.query.odds) (E.rows p.query.kids) p.query.line p.query.col x13 s14 x15 x16 (D.str (bx f.name)) (D.list 5 (Fld.rows f.params)) (D.int IntKind.i64 f.res.k) (D.list 2 (T.rows f.res.l)) (D.int IntKind.i64 f.body.k) (D.int IntKind.i64 f.body.n) (D.str (bx f.body.name)) (D.list 1 (strs f.body.names)) (D.list 1 (ints f.body.odds)) (D.list 8 (E.rows f.body.kids)) (D.int IntKind.i64 f.body.line) (D.int IntKind.i64 f.body.col) (D.int IntKind.i64 f.line) (D.int IntKind.i64 f.col) := by
  intro d
  induction d with
  | zero =>
    intro i hi hd m hm
    obtain ⟨m, rfl⟩ : ∃ m', m = m' + 1 := ⟨m - 1, by omega⟩
    rw [List.drop_eq_nil_of_le (by omega), limFs, l46_2_eq, lt_no i _ (by omega), cond_false]
  | succ d ih =>
    intro i hi hd m hm
    obtain ⟨m, rfl⟩ : ∃ m', m = m' + 1 := ⟨m - 1, by omega⟩
    have hlt : i < f.params.length := by omega
    have hat := Fld.rows_at f.params i hlt
    rw [limFs_drop _ i hlt, l46_2_eq, lt_yes i _ hlt, cond_true, q46_4_eq]
    rw [show D.rows (D.list 5 (Fld.rows f.params)) = Fld.rows f.params from rfl, show D.isList 5 (D.list 5 (Fld.rows f.params)) = true from rfl, cond_true, Fld.rows_len, in_range i _ hlt, cond_true, tn, hat]
    have hc := H f.params[i] (List.getElem_mem hlt)
    cases hx : limT f.params[i].typ f.params[i].line f.params[i].col with
    | some x =>
      obtain ⟨a, b⟩ := x
      rw [hx] at hc
      refine (congrArg (fun z => r_a4ISII z _ _) hc).trans ?_
      rfl
    | none =>
      rw [hx] at hc
      refine (congrArg (fun z => r_a4ISII z _ _) hc).trans ?_
      refine (g_a4ISII _ _ _ _ _ _).trans ?_
      show q46_5 _ _ _ _ _ _ _ _ _ _ _ _ _ _ _ _ _ _ _ _ _ _ _ _ _ _ _ _ _ _ _ _ _ _ _ _ _ _ = _
      rw [q46_5_eq, wrap_up i (by omega)]
      exact ih (i + 1) (by omega) (by omega) m (by omega)
/-- What a program must be like for its lists to be counted. -/
structure SmallFn (f : Fnc) : Prop where
  len : f.params.length < 9223372036854775807
  typ : ∀ x ∈ f.params, SmallT x.typ
  res : SmallT f.res
  body : SmallE f.body
structure SmallP (p : Pg) : Prop where
  ilen : p.inputs.length < 9223372036854775807
  ityp : ∀ x ∈ p.inputs, SmallT x.typ
  flen : p.funs.length < 9223372036854775807
  fn : ∀ f ∈ p.funs, SmallFn f
  query : SmallE p.query
theorem L_funs (fs : List Fnc) (hk : fs.length < 9223372036854775807) (hs : ∀ f ∈ fs, SmallFn f) (hq : SmallE p.query) : ∀ (d i : Nat), i ≤ fs.length → fs.length - i = d →
    Ev (fun m k n => l46_1 m (Ak k) n (Fnc.rows fs) (Int.ofNat fs.length) (Int.ofNat i) (Fld.rows p.inputs) (Fnc.rows p.funs) p.query.k p.query.n (bx p.query.name) (strs p.query.names) (ints p.query.odds) (E.rows p.query.kids) p.query.line p.query.col x13 s14 x15 x16)
      (RV (V.agg (limX (match limFns (fs.drop i) with | some x => some x | none => limE p.query)))) := by
  intro d
  induction d with
  | zero =>
    intro i hi hd
    rw [List.drop_eq_nil_of_le (by omega), limFns]
    refine Ev.step ?_
    simp only [l46_1_eq]
    refine Ev.no (lt_no i _ (by omega)) ?_
    simp only [q46_9_eq]
    have h := C_limit p.query hq
    cases hx : limE p.query with
    | none => rw [hx] at h; exact v_a4ISII h (Ev.ret _)
    | some x => obtain ⟨a, b⟩ := x; rw [hx] at h; exact v_a4ISII h (Ev.ret _)
  | succ d ih =>
    intro i hi hd
    have hlt : i < fs.length := by omega
    have hat := Fnc.rows_at fs i hlt
    rw [Fnc.row_eq] at hat
    rw [limFns_drop _ i hlt]
    refine Ev.step ?_
    simp only [l46_1_eq]
    refine Ev.yes (lt_yes i _ hlt) ?_
    simp only [q46_3_eq, tn, hat]
    refine Ev.yes (in_range i _ (by rw [Fnc.rows_len]; exact hlt)) ?_
    refine Ev.yes rfl ?_
    have hf := hs fs[i] (List.getElem_mem hlt)
    have next := ih (i + 1) (by omega) (by omega)
    generalize fs[i] = f at hf
    have e1 : Int.ofNat (D.rows (List.getD [D.str (bx f.name), D.list 5 (Fld.rows f.params), D.int IntKind.i64 f.res.k, D.list 2 (T.rows f.res.l), D.int IntKind.i64 f.body.k, D.int IntKind.i64 f.body.n, D.str (bx f.body.name), D.list 1 (strs f.body.names), D.list 1 (ints f.body.odds), D.list 8 (E.rows f.body.kids), D.int IntKind.i64 f.body.line, D.int IntKind.i64 f.body.col, D.int IntKind.i64 f.line, D.int IntKind.i64 f.col] 1 D.junk)).length = Int.ofNat f.params.length := congrArg Int.ofNat (Fld.rows_len _)
    rw [e1]
    obtain ⟨K, hK⟩ := cal_all (l := f.params) (f := 74) (args := fun x => [tV x.typ, nV x.line, nV x.col]) (o := fun x => RV (V.agg (limX (limT x.typ x.line x.col)))) fun x hx => C_limT x.typ (hf.typ x hx) _ _
    unfold limFn
    cases hp : limFs f.params with
    | some x =>
      refine ⟨K + f.params.length + 1, fun m k n h1 h2 h3 => ?_⟩
      refine (L_params p x13 x15 x16 s14 f hf.len (Ak k) m n (Fnc.rows fs) (Int.ofNat fs.length) (Int.ofNat i) (hK k (by omega)) f.params.length 0 (Nat.zero_le _) rfl m (by omega)).trans ?_
      rw [List.drop_zero, hp]
    | none =>
      have tail : Ev (fun m k n => q46_6 (Ak k) m n (Fnc.rows fs) (Int.ofNat fs.length) (Int.ofNat i) (Fld.rows p.inputs) (Fnc.rows p.funs) p.query.k p.query.n (bx p.query.name) (strs p.query.names) (ints p.query.odds) (E.rows p.query.kids) p.query.line p.query.col x13 s14 x15 x16 (D.str (bx f.name)) (D.list 5 (Fld.rows f.params)) (D.int IntKind.i64 f.res.k) (D.list 2 (T.rows f.res.l)) (D.int IntKind.i64 f.body.k) (D.int IntKind.i64 f.body.n) (D.str (bx f.body.name)) (D.list 1 (strs f.body.names)) (D.list 1 (ints f.body.odds)) (D.list 8 (E.rows f.body.kids)) (D.int IntKind.i64 f.body.line) (D.int IntKind.i64 f.body.col) (D.int IntKind.i64 f.line) (D.int IntKind.i64 f.col))
          (RV (V.agg (limX (match (match limT f.res f.line f.col with | some x => some x | none => limE f.body) with | some x => some x | none => match limFns (fs.drop (i + 1)) with | some x => some x | none => limE p.query)))) := by
        simp only [q46_6_eq]
        have h := C_limT f.res hf.res f.line f.col
        cases hr : limT f.res f.line f.col with
        | some x =>
          obtain ⟨a, b⟩ := x
          rw [hr] at h
          exact v_a4ISII h (Ev.yes rfl (Ev.ret _))
        | none =>
          rw [hr] at h
          refine v_a4ISII h (Ev.no rfl ?_)
          simp only [q46_7_eq]
          have h2 := C_limit f.body hf.body
          cases hb : limE f.body with
          | some x =>
            obtain ⟨a, b⟩ := x
            rw [hb] at h2
            exact v_a4ISII h2 (Ev.yes rfl (Ev.ret _))
          | none =>
            rw [hb] at h2
            refine v_a4ISII h2 (Ev.no rfl ?_)
            simp only [q46_8_eq, wrap_up i (show i < 9223372036854775807 by omega)]
            exact next
      obtain ⟨L, hL⟩ := tail
      refine ⟨K + L + f.params.length + 1, fun m k n h1 h2 h3 => ?_⟩
      refine (L_params p x13 x15 x16 s14 f hf.len (Ak k) m n (Fnc.rows fs) (Int.ofNat fs.length) (Int.ofNat i) (hK k (by omega)) f.params.length 0 (Nat.zero_le _) rfl m (by omega)).trans ?_
      rw [List.drop_zero, hp]
      refine (hL m k n (by omega) (by omega) (by omega)).trans ?_
      clear hL
      cases limT f.res f.line f.col with
      | some x => rfl
      | none => cases limE f.body <;> rfl
theorem L_inputs (hs : SmallP p) : ∀ (d i : Nat), i ≤ p.inputs.length → p.inputs.length - i = d →
    Ev (fun m k n => l46_0 m (Ak k) n (Fld.rows p.inputs) (Int.ofNat p.inputs.length) (Int.ofNat i) (Fld.rows p.inputs) (Fnc.rows p.funs) p.query.k p.query.n (bx p.query.name) (strs p.query.names) (ints p.query.odds) (E.rows p.query.kids) p.query.line p.query.col x13 s14 x15 x16)
      (RV (V.agg (limX (match limFs (p.inputs.drop i) with | some x => some x | none => match limFns p.funs with | some x => some x | none => limE p.query)))) := by
  intro d
  induction d with
  | zero =>
    intro i hi hd
    rw [List.drop_eq_nil_of_le (by omega), limFs]
    refine Ev.step ?_
    simp only [l46_0_eq]
    refine Ev.no (lt_no i _ (by omega)) ?_
    simp only [q46_2_eq, Fnc.rows_len]
    exact Ev.diag (L_funs p _ _ _ _ p.funs hs.flen hs.fn hs.query _ 0 (Nat.zero_le _) rfl)
  | succ d ih =>
    intro i hi hd
    have hlt : i < p.inputs.length := by omega
    have hat := Fld.rows_at p.inputs i hlt
    rw [limFs_drop _ i hlt]
    refine Ev.step ?_
    simp only [l46_0_eq]
    refine Ev.yes (lt_yes i _ hlt) ?_
    simp only [q46_0_eq, tn, hat]
    refine Ev.yes (in_range i _ (by rw [Fld.rows_len]; exact hlt)) ?_
    have h := C_limT p.inputs[i].typ (hs.ityp _ (List.getElem_mem hlt)) p.inputs[i].line p.inputs[i].col
    cases hr : limT p.inputs[i].typ p.inputs[i].line p.inputs[i].col with
    | some x =>
      obtain ⟨a, b⟩ := x
      rw [hr] at h
      exact v_a4ISII h (Ev.yes rfl (Ev.ret _))
    | none =>
      rw [hr] at h
      refine v_a4ISII h (Ev.no rfl ?_)
      have := hs.ilen
      simp only [q46_1_eq, wrap_up i (show i < 9223372036854775807 by omega)]
      exact ih (i + 1) (by omega) (by omega)
end
theorem C_limits (p : Pg) (hs : SmallP p) : Cal 46 [pV p] [] (RV (V.agg (limX (limP p)))) := by
  refine call46 _ _ _ _ _ _ _ _ _ _ ?_
  simp only [e46_eq, Fld.rows_len]
  exact Ev.diag (L_inputs p _ _ _ _ hs _ 0 (Nat.zero_le _) rfl)
end Go.Proofs.Ytbmcafehpgimfaa.Ps
