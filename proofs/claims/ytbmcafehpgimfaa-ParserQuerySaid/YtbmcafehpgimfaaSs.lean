/- Expr and Program: what they hand back. -/
import Derived.Test.YtbmcafehpgimfaaSr
namespace Go.Proofs.Ytbmcafehpgimfaa.Ps
set_option linter.unusedVariables false
set_option linter.unusedSimpArgs false
open Go Go.RowKit Px
open Lx (Tok tok scan sm dg nm sgn val isWord ws nnl Flt)

theorem wEs_len : ∀ l : List E, l.length ≤ wEs l
  | [] => by rw [wEs]; exact Nat.le_refl _
  | x :: r => by
    have := wEs_len r
    have := wE_pos x
    rw [wEs, List.length_cons]
    omega
mutual
theorem small_E : ∀ e : E, wE e < 9223372036854775807 → SmallE e
  | .mk k n s ns os ks a b, h => by
    rw [wE] at h
    rw [SmallE]
    have := wEs_len ks
    exact ⟨by omega, small_Es ks (by omega)⟩
theorem small_Es : ∀ l : List E, wEs l < 9223372036854775807 → SmallEs l
  | [], _ => by rw [SmallEs]; trivial
  | x :: r, h => by
    rw [wEs] at h
    rw [SmallEs]
    exact ⟨small_E x (by omega), small_Es r (by omega)⟩
end
theorem wT_pos (t : T) : 1 ≤ wT t := by cases t; rw [wT]; omega
theorem wTs_len : ∀ l : List T, l.length ≤ wTs l
  | [] => by rw [wTs]; exact Nat.le_refl _
  | x :: r => by
    have := wTs_len r
    have := wT_pos x
    rw [wTs, List.length_cons]
    omega
mutual
theorem small_T : ∀ t : T, wT t < 9223372036854775807 → SmallT t
  | .mk k l, h => by
    rw [wT] at h
    rw [SmallT]
    have := wTs_len l
    exact ⟨by omega, small_Ts l (by omega)⟩
theorem small_Ts : ∀ l : List T, wTs l < 9223372036854775807 → SmallTs l
  | [], _ => by rw [SmallTs]; trivial
  | x :: r, h => by
    rw [wTs] at h
    rw [SmallTs]
    exact ⟨small_T x (by omega), small_Ts r (by omega)⟩
end
theorem wFs_len : ∀ l : List Fld, l.length ≤ wFs l
  | [] => Nat.le_refl _
  | x :: r => by
    have := wFs_len r
    have := wT_pos x.typ
    rw [wFs, List.length_cons, wF]
    omega
theorem wFs_mem : ∀ (l : List Fld) (x : Fld), x ∈ l → wT x.typ ≤ wFs l
  | y :: r, x, h => by
    rw [wFs]
    rcases List.mem_cons.1 h with rfl | h
    · rw [wF]; omega
    · have := wFs_mem r x h; omega
theorem wFns_len : ∀ l : List Fnc, l.length ≤ wFns l
  | [] => Nat.le_refl _
  | x :: r => by
    have := wFns_len r
    rw [wFns, List.length_cons, wFn]
    omega
theorem wFns_mem : ∀ (l : List Fnc) (x : Fnc), x ∈ l → wFn x ≤ wFns l
  | y :: r, x, h => by
    rw [wFns]
    rcases List.mem_cons.1 h with rfl | h
    · omega
    · have := wFns_mem r x h; omega
theorem small_P (p : Pg) (h : wFs p.inputs + wFns p.funs + wE p.query < 9223372036854775807) : SmallP p where
  ilen := by have := wFs_len p.inputs; omega
  ityp := fun x hx => small_T _ (by have := wFs_mem _ x hx; omega)
  flen := by have := wFns_len p.funs; omega
  fn := fun f hf => by
    have := wFns_mem _ f hf
    rw [wFn] at this
    exact ⟨by have := wFs_len f.params; omega, fun x hx => small_T _ (by have := wFs_mem _ x hx; omega), small_T _ (by omega), small_E _ (by omega)⟩
  query := small_E _ (by omega)
/-! ### An expression -/
def okF : Flt := ⟨0, [], 0, 0⟩
def limF (x : Int × Int) : Flt := ⟨2, [], x.1, x.2⟩
def exprL (l : List Tok) : E × Flt :=
  match wholeE l with
  | .ok a _ => match limE a with
    | none => (a, okF)
    | some x => (noE, limF x)
  | .no j => (noE, tokF (tk l j))
  | .out => (noE, okF)
def exprF (s : List UInt8) : E × Flt :=
  if 20000 < s.length then (noE, limF (0, 0)) else
  match scan s 1 1 with
  | .error g => (noE, g)
  | .ok l => exprL l
theorem C_Expr (s : List UInt8) : Cal 11 [V.one (X.d (D.str (bx s)))] [] (RV (V.tup [eV (exprF s).1, V.agg (fltX (exprF s).2)])) := by
  obtain ⟨f, e, ho, hc⟩ := C_read1 s
  refine call11 _ ?_
  simp only [e11_eq]
  unfold ReadOut at ho
  unfold exprF
  by_cases hs : 20000 < s.length
  · rw [if_pos hs] at ho ⊢
    obtain ⟨rfl, rfl⟩ := ho
    refine v_a4ISII_IISL1L1L8II hc (Ev.no rfl ?_)
    simp only [q11_0_eq]
    exact Ev.yes rfl (Ev.of fun m k n => by unfold eV noE; simp only [E.kids, E.rows_nil]; rfl)
  rw [if_neg hs] at ho ⊢
  cases hsc : scan s 1 1 with
  | error g =>
    rw [hsc] at ho
    obtain ⟨rfl, rfl⟩ := ho
    have hb := scan_bad _ s 1 1 g (Nat.lt_succ_self _) hsc
    refine v_a4ISII_IISL1L1L8II hc (Ev.no (by simpa using hb) ?_)
    simp only [q11_0_eq]
    exact Ev.yes (by simpa using hb) (Ev.of fun m k n => by unfold eV noE; simp only [E.kids, E.rows_nil]; rfl)
  | ok l =>
    rw [hsc] at ho
    have hfew := scan_few (by omega) hsc
    show Ev _ (RV (V.tup [eV (exprL l).1, V.agg (fltX (exprL l).2)]))
    unfold exprL
    simp only at ho
    cases hw : wholeE l with
    | out => rw [hw] at ho; exact ho.elim
    | no j =>
      rw [hw] at ho
      simp only at ho
      subst ho
      refine v_a4ISII_IISL1L1L8II hc (Ev.no rfl ?_)
      simp only [q11_0_eq]
      exact Ev.yes rfl (Ev.of fun m k n => by unfold eV noE; simp only [E.kids, E.rows_nil]; rfl)
    | ok a j =>
      rw [hw] at ho
      obtain ⟨rfl, rfl⟩ := ho
      have hsm : SmallE e := by
        have h2 : wholeE l = thenR (pw l .expr 0) fun e j => run (pw l) l (.knd 5 (.ret e) .fail) j := run_call _ _ _
        rw [h2] at hw
        cases hp : pw l .expr 0 with
        | out => rw [hp] at hw; cases hw
        | no k => rw [hp] at hw; cases hw
        | ok b k =>
          rw [hp] at hw
          have h3 := pw_wt hp
          have h4 := (pw_ok hfew.1.good hfew.2.2 hp).2
          have h5 := hfew.1.len
          have : b = e := by
            replace hw : run (pw l) l (.knd 5 (.ret b) .fail) k = .ok e j := hw
            rw [run] at hw
            cases hk : (tk l k).kind == 5 with
            | true => rw [hk] at hw; cases hw; rfl
            | false => rw [hk] at hw; cases hw
          subst this
          refine small_E b ?_
          have h6 : wE b + 0 ≤ 0 + k := h3
          omega
      have hl := C_limit e hsm
      refine v_a4ISII_IISL1L1L8II hc (Ev.yes rfl ?_)
      simp only
      cases hx : limE e with
      | none =>
        rw [hx] at hl
        refine v_a4ISII hl ?_
        simp only [q11_0_eq, q11_1_eq]
        exact Ev.no rfl (Ev.ret _)
      | some x =>
        rw [hx] at hl
        refine v_a4ISII hl ?_
        simp only [q11_0_eq]
        exact Ev.yes rfl (Ev.of fun m k n => by unfold eV noE; simp only [E.kids, E.rows_nil]; rfl)

/-! ### A program -/
abbrev PXl : List Lf := [Lf.lst 5, Lf.lst 14, Lf.int IntKind.i64, Lf.int IntKind.i64, Lf.str, Lf.lst 1, Lf.lst 1, Lf.lst 8, Lf.int IntKind.i64, Lf.int IntKind.i64]
def noP : Pg := ⟨[], [], noE⟩
def wholeP (l : List Tok) : Rs Pg := run (pw l) l (.call .program fun e => .knd 5 (.ret e) .fail) 0
theorem C_litP (l : List Tok) (hl : Few l) (hn : Nums l) (i : Nat) (hi : i < l.length) (e0 : Pg) :
    Cal 44 [V.one (X.ptr 0 0), V.one (X.ptr 1 0)] [(RD, rd l i), (PXl, pX e0)] (match pw l .program i with
      | .ok a j => ⟨true, V.tup [], D.junk, [rd l j, pX a], 0⟩
      | .no j => ⟨false, V.junk, flt (tk l j), [rd l j, pX e0], 0⟩
      | .out => ⟨true, V.junk, D.junk, [], 0⟩) := by
  have h := program_ok hl hn i hi (pw_ends hl.good _ i hi)
  refine call44 _ _ _ _ _ _ _ _ _ _ _ _ ?_
  simp only [e44_eq]
  cases hp : pw l .program i with
  | ok a j =>
    rw [hp] at h
    exact v_a10L5L14IISL1L1L8II_L5I h (Ev.ret _)
  | no j =>
    rw [hp] at h
    exact u_a10L5L14IISL1L1L8II_L5I h (Ev.ret _)
  | out => exact absurd hp (pw_ends hl.good _ i hi)
def ReadOutP (s : List UInt8) (f : List X) (e : Pg) : Prop :=
  if 20000 < s.length then f = [iX 2, sX [], iX 0, iX 0] ∧ e = noP else
  match scan s 1 1 with
  | .error g => f = fltX g ∧ e = noP
  | .ok l => match wholeP l with
    | .ok a _ => f = fine ∧ e = a
    | .no j => f = fltX (tokF (tk l j))
    | .out => False
theorem C_read2 (s : List UInt8) : ∃ f e, ReadOutP s f e ∧ Cal 22 [V.one (X.d (D.str (bx s))), V.one (X.fn 44 [X.ptr 0 0])] [(PXl, pX noP)] ⟨true, V.agg f, D.junk, [pX e], 0⟩ := by
  have ht := C_tokens s
  by_cases hs : 20000 < s.length
  · rw [if_pos hs] at ht
    refine ⟨_, _, by unfold ReadOutP; rw [if_pos hs]; exact ⟨rfl, rfl⟩, ?_⟩
    refine call22f44 _ _ _ _ _ _ _ _ _ _ _ ?_
    simp only [e22f44_eq]
    exact v_t2oL5a4ISII ht (Ev.yes rfl (Ev.ret _))
  rw [if_neg hs] at ht
  unfold ReadOutP
  simp only [if_neg hs]
  cases hsc : scan s 1 1 with
  | error g =>
    rw [hsc] at ht
    refine ⟨_, _, ⟨rfl, rfl⟩, ?_⟩
    refine call22f44 _ _ _ _ _ _ _ _ _ _ _ ?_
    simp only [e22f44_eq]
    have tl : tokOut [] (.error g) = V.tup [V.one (X.d (D.list 5 [])), V.agg (fltX g)] := rfl
    rw [tl] at ht
    exact v_t2oL5a4ISII ht (Ev.yes (by simpa using scan_bad _ s 1 1 g (Nat.lt_succ_self _) hsc) (Ev.ret _))
  | ok l =>
    rw [hsc] at ht
    have hfew := scan_few (by omega) hsc
    have h0 := hfew.2.2
    have hlit := C_litP l hfew.1 hfew.2.1 0 h0 noP
    have tl : tokOut [] (.ok l) = V.tup [V.one (X.d (D.list 5 (toks l))), V.agg fine] := rfl
    rw [tl] at ht
    simp only
    have e0 : wholeP l = thenR (pw l .program 0) fun e j => run (pw l) l (.knd 5 (.ret e) .fail) j := run_call _ _ _
    rw [e0]
    cases hp : pw l .program 0 with
    | out => exact absurd hp (pw_ends hfew.1.good _ 0 h0)
    | no j =>
      rw [hp] at hlit
      refine ⟨_, noP, rfl, ?_⟩
      refine call22f44 _ _ _ _ _ _ _ _ _ _ _ ?_
      simp only [e22f44_eq]
      refine v_t2oL5a4ISII ht (Ev.no rfl ?_)
      simp only [q22_0_eq]
      exact u_n_L5I_L5L14IISL1L1L8II hlit (Ev.of fun m k n => rfl)
    | ok a j =>
      rw [hp] at hlit
      have hf := pw_ok hfew.1.good h0 hp
      have ht2 := C_token hf.2
      show ∃ f e, (match run (pw l) l (.knd 5 (.ret a) .fail) j with
        | .ok a _ => f = fine ∧ e = a
        | .no j => f = fltX (tokF (tk l j))
        | .out => False) ∧ _
      rw [run]
      cases hk : (tk l j).kind == 5 with
      | true =>
        refine ⟨_, a, ⟨rfl, rfl⟩, ?_⟩
        refine call22f44 _ _ _ _ _ _ _ _ _ _ _ ?_
        simp only [e22f44_eq]
        refine v_t2oL5a4ISII ht (Ev.no rfl ?_)
        simp only [q22_0_eq, q22_1_eq]
        exact v_n_L5I_L5L14IISL1L1L8II hlit (v_a5ISIII_L5I ht2 (Ev.no (by rw [bne, hk]; rfl) (Ev.ret _)))
      | false =>
        refine ⟨_, a, rfl, ?_⟩
        refine call22f44 _ _ _ _ _ _ _ _ _ _ _ ?_
        simp only [e22f44_eq]
        refine v_t2oL5a4ISII ht (Ev.no rfl ?_)
        simp only [q22_0_eq]
        exact v_n_L5I_L5L14IISL1L1L8II hlit (v_a5ISIII_L5I ht2 (Ev.yes (by rw [bne, hk]; rfl) (u_n_L5I (C_fail hf.2) (Ev.of fun m k n => rfl))))
def progL_ (l : List Tok) : Pg × Flt :=
  match wholeP l with
  | .ok a _ => match limP a with
    | none => (a, okF)
    | some x => (noP, limF x)
  | .no j => (noP, tokF (tk l j))
  | .out => (noP, okF)
def progF (s : List UInt8) : Pg × Flt :=
  if 20000 < s.length then (noP, limF (0, 0)) else
  match scan s 1 1 with
  | .error g => (noP, g)
  | .ok l => progL_ l
theorem C_Program (s : List UInt8) : Cal 19 [V.one (X.d (D.str (bx s)))] [] (RV (V.tup [pV (progF s).1, V.agg (fltX (progF s).2)])) := by
  obtain ⟨f, e, ho, hc⟩ := C_read2 s
  refine call19 _ ?_
  simp only [e19_eq]
  unfold ReadOutP at ho
  unfold progF
  by_cases hs : 20000 < s.length
  · rw [if_pos hs] at ho ⊢
    obtain ⟨rfl, rfl⟩ := ho
    refine v_a4ISII_L5L14IISL1L1L8II hc (Ev.no rfl ?_)
    simp only [q19_0_eq]
    exact Ev.yes rfl (Ev.of fun m k n => by unfold pV pX noP noE; simp only [E.kids, E.rows_nil]; rfl)
  rw [if_neg hs] at ho ⊢
  cases hsc : scan s 1 1 with
  | error g =>
    rw [hsc] at ho
    obtain ⟨rfl, rfl⟩ := ho
    have hb := scan_bad _ s 1 1 g (Nat.lt_succ_self _) hsc
    refine v_a4ISII_L5L14IISL1L1L8II hc (Ev.no (by simpa using hb) ?_)
    simp only [q19_0_eq]
    exact Ev.yes (by simpa using hb) (Ev.of fun m k n => by unfold pV pX noP noE; simp only [E.kids, E.rows_nil]; rfl)
  | ok l =>
    rw [hsc] at ho
    have hfew := scan_few (by omega) hsc
    show Ev _ (RV (V.tup [pV (progL_ l).1, V.agg (fltX (progL_ l).2)]))
    unfold progL_
    simp only at ho
    cases hw : wholeP l with
    | out => rw [hw] at ho; exact ho.elim
    | no j =>
      rw [hw] at ho
      simp only at ho
      subst ho
      refine v_a4ISII_L5L14IISL1L1L8II hc (Ev.no rfl ?_)
      simp only [q19_0_eq]
      exact Ev.yes rfl (Ev.of fun m k n => by unfold pV pX noP noE; simp only [E.kids, E.rows_nil]; rfl)
    | ok a j =>
      rw [hw] at ho
      obtain ⟨rfl, rfl⟩ := ho
      have hsm : SmallP e := by
        have h2 : wholeP l = thenR (pw l .program 0) fun e j => run (pw l) l (.knd 5 (.ret e) .fail) j := run_call _ _ _
        rw [h2] at hw
        cases hp : pw l .program 0 with
        | out => rw [hp] at hw; cases hw
        | no k => rw [hp] at hw; cases hw
        | ok b k =>
          rw [hp] at hw
          have h3 := pw_wt hp
          have h4 := (pw_ok hfew.1.good hfew.2.2 hp).2
          have h5 := hfew.1.len
          have : b = e := by
            replace hw : run (pw l) l (.knd 5 (.ret b) .fail) k = .ok e j := hw
            rw [run] at hw
            cases hk : (tk l k).kind == 5 with
            | true => rw [hk] at hw; cases hw; rfl
            | false => rw [hk] at hw; cases hw
          subst this
          refine small_P b ?_
          have h6 : wFs b.inputs + wFns b.funs + wE b.query + 0 ≤ 0 + k := h3
          omega
      have hl := C_limits e hsm
      refine v_a4ISII_L5L14IISL1L1L8II hc (Ev.yes rfl ?_)
      simp only
      cases hx : limP e with
      | none =>
        rw [hx] at hl
        refine v_a4ISII hl ?_
        simp only [q19_0_eq, q19_1_eq]
        exact Ev.no rfl (Ev.ret _)
      | some x =>
        rw [hx] at hl
        refine v_a4ISII hl ?_
        simp only [q19_0_eq]
        exact Ev.yes rfl (Ev.of fun m k n => by unfold pV pX noP noE; simp only [E.kids, E.rows_nil]; rfl)
end Go.Proofs.Ytbmcafehpgimfaa.Ps
