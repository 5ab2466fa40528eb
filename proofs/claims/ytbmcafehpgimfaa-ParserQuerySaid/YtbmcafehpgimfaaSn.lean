/- What the scanner's tokens are like; reading a whole text, with the panic taken up. -/
import Derived.Test.YtbmcafehpgimfaaSm
import Derived.Test.YtbmcafehpgimfaaSh
namespace Go.Proofs.Ytbmcafehpgimfaa.Ps
set_option linter.unusedVariables false
set_option linter.unusedSimpArgs false
open Go Go.RowKit Px
open Lx (Tok tok scan sm dg nm sgn val isWord ws nnl Flt)

theorem tok_kind {l : List UInt8} {k : Int} {w : List UInt8} {n : Int} (h : tok l = .ok k w n) : k ≠ 5 ∧ k ≠ 0 ∧ 0 ≤ n ∧ n ≤ 2147483647 := by
  unfold tok at h
  split at h
  · split at h
    · cases h
    · split at h <;> (cases h; decide)
  · split at h
    · split at h
      · cases h
      · rename_i h2
        cases h
        exact ⟨by decide, by decide, by omega, by omega⟩
    · split at h
      · cases h
      · cases h; decide
structure TokL (n : Nat) (l : List Tok) : Prop where
  few : l.length ≤ n + 1
  pos : 0 < l.length
  last : ∀ i, i < l.length → ((tk l i).kind = 5 ↔ i + 1 = l.length)
  nums : ∀ t ∈ l, 0 ≤ t.n ∧ t.n ≤ 2147483647
theorem tk_succ (t : Tok) (l : List Tok) (i : Nat) : tk (t :: l) (i + 1) = tk l i := rfl
theorem TokL.cons {n : Nat} {l : List Tok} (h : TokL n l) {t : Tok} (h1 : t.kind ≠ 5) (h2 : 0 ≤ t.n ∧ t.n ≤ 2147483647) : TokL (n + 1) (t :: l) where
  few := by have := h.few; rw [List.length_cons]; omega
  pos := by simp
  last := fun i hi => by
    cases i with
    | zero =>
      have := h.pos
      rw [List.length_cons]
      show t.kind = 5 ↔ _
      exact ⟨fun e => absurd e h1, fun e => by omega⟩
    | succ i =>
      rw [tk_succ]
      rw [List.length_cons] at hi ⊢
      rw [h.last i (by omega)]
      omega
  nums := fun x hx => by
    rcases List.mem_cons.1 hx with rfl | hx
    · exact h2
    · exact h.nums x hx
theorem TokL.mono {n m : Nat} {l : List Tok} (h : TokL n l) (hm : n ≤ m) : TokL m l := ⟨by have := h.few; omega, h.pos, h.last, h.nums⟩
theorem scan_tokl : ∀ (d : Nat) (l : List UInt8) (line col : Int) (r : List Tok), l.length < d → scan l line col = .ok r → TokL l.length r
  | 0, l, _, _, _, h, _ => by omega
  | d + 1, [], line, col, r, hd, h => by
    rw [scan] at h
    cases h
    exact ⟨by simp, by simp, fun i hi => by
      have : i = 0 := by simpa using hi
      subst this
      exact ⟨fun _ => rfl, fun _ => rfl⟩, fun t ht => by
      rw [List.mem_singleton.1 ht]
      exact ⟨Int.le_refl 0, (by decide : (0 : Int) ≤ 2147483647)⟩⟩
  | d + 1, c :: t, line, col, r, hd, h => by
    rw [List.length_cons] at hd
    rw [scan] at h
    split at h
    · exact (scan_tokl d t _ _ r (by omega) h).mono (by simp)
    split at h
    · exact (scan_tokl d t _ _ r (by omega) h).mono (by simp)
    split at h
    · have := (List.dropWhile_sublist (p := nnl) (l := t)).length_le
      exact (scan_tokl d _ _ _ r (by omega) h).mono (by rw [List.length_cons]; omega)
    cases ht : tok (c :: t) with
    | bad e w => rw [ht] at h; cases h
    | ok k w n =>
      rw [ht] at h
      simp only at h
      cases hs : scan (t.drop (w.length - 1)) line (col + w.length) with
      | error f => rw [hs] at h; cases h
      | ok l' =>
        rw [hs] at h
        cases h
        have h1 := scan_tokl d _ _ _ l' (by rw [List.length_drop]; omega) hs
        have hk := tok_kind ht
        exact (h1.cons (t := ⟨k, w, n, line, col⟩) hk.1 hk.2.2).mono (by rw [List.length_drop, List.length_cons]; omega)
theorem scan_bad : ∀ (d : Nat) (l : List UInt8) (line col : Int) (g : Flt), l.length < d → scan l line col = .error g → g.e ≠ 0
  | 0, l, _, _, _, h, _ => by omega
  | d + 1, [], line, col, r, hd, h => by rw [scan] at h; cases h
  | d + 1, c :: t, line, col, g, hd, h => by
    rw [List.length_cons] at hd
    rw [scan] at h
    split at h
    · exact scan_bad d t _ _ g (by omega) h
    split at h
    · exact scan_bad d t _ _ g (by omega) h
    split at h
    · have := (List.dropWhile_sublist (p := nnl) (l := t)).length_le
      exact scan_bad d _ _ _ g (by omega) h
    cases ht : tok (c :: t) with
    | bad e w =>
      rw [ht] at h
      cases h
      exact tok_bad ht
    | ok k w n =>
      rw [ht] at h
      simp only at h
      cases hs : scan (t.drop (w.length - 1)) line (col + w.length) with
      | error f =>
        rw [hs] at h
        cases h
        exact scan_bad d _ _ _ g (by rw [List.length_drop]; omega) hs
      | ok l' => rw [hs] at h; cases h
theorem scan_few {l : List UInt8} {r : List Tok} (hl : l.length ≤ 20000) (h : scan l 1 1 = .ok r) : Few r ∧ Nums r ∧ 0 < r.length := by
  have := scan_tokl _ l 1 1 r (Nat.lt_succ_self _) h
  refine ⟨⟨⟨this.last⟩, by have := this.few; omega⟩, fun i => ?_, this.pos⟩
  by_cases hi : i < r.length
  · have e : tk r i = r[i] := by unfold tk; rw [List.getD_eq_getElem?_getD, List.getElem?_eq_getElem hi]; rfl
    rw [e]
    exact this.nums _ (List.getElem_mem hi)
  · have e : tk r i = ⟨0, [], 0, 0, 0⟩ := by unfold tk; rw [List.getD_eq_getElem?_getD, List.getElem?_eq_none (by omega)]; rfl
    rw [e]
    exact ⟨by decide, by decide⟩

/-! ### A whole text -/
abbrev EXl : List Lf := [Lf.int IntKind.i64, Lf.int IntKind.i64, Lf.str, Lf.lst 1, Lf.lst 1, Lf.lst 8, Lf.int IntKind.i64, Lf.int IntKind.i64]
def eX (e : E) : List X := [X.d (D.int IntKind.i64 e.k), X.d (D.int IntKind.i64 e.n), X.d (D.str (bx e.name)), X.d (D.list 1 (strs e.names)), X.d (D.list 1 (ints e.odds)), X.d (D.list 8 (E.rows e.kids)), X.d (D.int IntKind.i64 e.line), X.d (D.int IntKind.i64 e.col)]
def noE : E := .mk 0 0 [] [] [] [] 0 0
def tokF (t : Tok) : Flt := ⟨11, t.text, t.line, t.col⟩
def wholeE (l : List Tok) : Rs E := run (pw l) l (.call .expr fun e => .knd 5 (.ret e) .fail) 0
theorem C_lit (l : List Tok) (hl : Few l) (hn : Nums l) (i : Nat) (hi : i < l.length) (e0 : E) :
    Cal 23 [V.one (X.ptr 0 0), V.one (X.ptr 1 0)] [(RD, rd l i), (EXl, eX e0)] (match pw l .expr i with
      | .ok a j => ⟨true, V.tup [], D.junk, [rd l j, eX a], 0⟩
      | .no j => ⟨false, V.junk, flt (tk l j), [rd l j, eX e0], 0⟩
      | .out => ⟨true, V.junk, D.junk, [], 0⟩) := by
  have h := exprs_ok hl hn i hi (pw_ends hl.good _ i hi)
  refine call23 _ _ _ _ _ _ _ _ _ _ ?_
  simp only [e23_eq]
  cases hp : pw l .expr i with
  | ok a j =>
    rw [hp] at h
    exact v_a8IISL1L1L8II_L5I h (Ev.ret _)
  | no j =>
    rw [hp] at h
    exact u_a8IISL1L1L8II_L5I h (Ev.ret _)
  | out => exact absurd hp (pw_ends hl.good _ i hi)
/-- What reading tells: a fault or none, and what stands in the variable then. -/
def ReadOut (s : List UInt8) (f : List X) (e : E) : Prop :=
  if 20000 < s.length then f = [iX 2, sX [], iX 0, iX 0] ∧ e = noE else
  match scan s 1 1 with
  | .error g => f = fltX g ∧ e = noE
  | .ok l => match wholeE l with
    | .ok a _ => f = fine ∧ e = a
    | .no j => f = fltX (tokF (tk l j))
    | .out => False
theorem C_read1 (s : List UInt8) : ∃ f e, ReadOut s f e ∧ Cal 22 [V.one (X.d (D.str (bx s))), V.one (X.fn 23 [X.ptr 0 0])] [(EXl, eX noE)] ⟨true, V.agg f, D.junk, [eX e], 0⟩ := by
  have ht := C_tokens s
  by_cases hs : 20000 < s.length
  · rw [if_pos hs] at ht
    refine ⟨_, _, by unfold ReadOut; rw [if_pos hs]; exact ⟨rfl, rfl⟩, ?_⟩
    refine call22f23 _ _ _ _ _ _ _ _ _ ?_
    simp only [e22f23_eq]
    exact v_t2oL5a4ISII ht (Ev.yes rfl (Ev.ret _))
  rw [if_neg hs] at ht
  unfold ReadOut
  simp only [if_neg hs]
  cases hsc : scan s 1 1 with
  | error g =>
    rw [hsc] at ht
    refine ⟨_, _, ⟨rfl, rfl⟩, ?_⟩
    refine call22f23 _ _ _ _ _ _ _ _ _ ?_
    simp only [e22f23_eq]
    have tl : tokOut [] (.error g) = V.tup [V.one (X.d (D.list 5 [])), V.agg (fltX g)] := rfl
    rw [tl] at ht
    exact v_t2oL5a4ISII ht (Ev.yes (by simpa using scan_bad _ s 1 1 g (Nat.lt_succ_self _) hsc) (Ev.ret _))
  | ok l =>
    rw [hsc] at ht
    have hfew := scan_few (by omega) hsc
    have h0 := hfew.2.2
    have hlit := C_lit l hfew.1 hfew.2.1 0 h0 noE
    have tl : tokOut [] (.ok l) = V.tup [V.one (X.d (D.list 5 (toks l))), V.agg fine] := rfl
    rw [tl] at ht
    simp only
    have e0 : wholeE l = thenR (pw l .expr 0) fun e j => run (pw l) l (.knd 5 (.ret e) .fail) j := run_call _ _ _
    rw [e0]
    cases hp : pw l .expr 0 with
    | out => exact absurd hp (pw_ends hfew.1.good _ 0 h0)
    | no j =>
      rw [hp] at hlit
      refine ⟨_, noE, rfl, ?_⟩
      refine call22f23 _ _ _ _ _ _ _ _ _ ?_
      simp only [e22f23_eq]
      refine v_t2oL5a4ISII ht (Ev.no rfl ?_)
      simp only [q22_0_v1_eq]
      exact u_n_L5I_IISL1L1L8II hlit (Ev.of fun m k n => rfl)
    | ok a j =>
      rw [hp] at hlit
      have hf := pw_ok hfew.1.good h0 hp
      have ht2 := C_token hf.2
      show ∃ f e, (match run (pw l) l (.knd 5 (.ret a) .fail) j with
        | .ok a _ => f = fine ∧ e = a
        | .no j => f = fltX (tokF (tk l j))
        | .out => False) ∧ _
      rw [run]
      cases hk : (tk l j).kind == 5 with
      | true =>
        refine ⟨_, a, ⟨rfl, rfl⟩, ?_⟩
        refine call22f23 _ _ _ _ _ _ _ _ _ ?_
        simp only [e22f23_eq]
        refine v_t2oL5a4ISII ht (Ev.no rfl ?_)
        simp only [q22_0_v1_eq, q22_1_v1_eq]
        exact v_n_L5I_IISL1L1L8II hlit (v_a5ISIII_L5I ht2 (Ev.no (by rw [bne, hk]; rfl) (Ev.ret _)))
      | false =>
        refine ⟨_, a, rfl, ?_⟩
        refine call22f23 _ _ _ _ _ _ _ _ _ ?_
        simp only [e22f23_eq]
        refine v_t2oL5a4ISII ht (Ev.no rfl ?_)
        simp only [q22_0_v1_eq]
        exact v_n_L5I_IISL1L1L8II hlit (v_a5ISIII_L5I ht2 (Ev.yes (by rw [bne, hk]; rfl) (u_n_L5I (C_fail hf.2) (Ev.of fun m k n => rfl))))
end Go.Proofs.Ytbmcafehpgimfaa.Ps
