/- How deep an expression, a type and a program go. -/
import Derived.Test.YtbmcafehpgimfaaSn
namespace Go.Proofs.Ytbmcafehpgimfaa.Px
set_option linter.unusedVariables false
set_option linter.unusedSimpArgs false
mutual
def deepE : E → Nat → Option E
  | e, 0 => some e
  | .mk _ _ _ _ _ ks _ _, n + 1 => deepEs ks n
def deepEs : List E → Nat → Option E
  | [], _ => none
  | x :: r, n => match deepE x n with
    | some y => some y
    | none => deepEs r n
end
def big (a b : Int) : Int := if a < b then b else a
mutual
def deepT : T → Int
  | .mk _ l => IntKind.wrap .i64 (deepTs l 0 + 1)
def deepTs : List T → Int → Int
  | [], a => a
  | x :: r, a => deepTs r (big a (deepT x))
end
theorem deepE_zero (e : E) : deepE e 0 = some e := by cases e; rw [deepE]
theorem deepE_succ (e : E) (n : Nat) : deepE e (n + 1) = deepEs e.kids n := by cases e; rw [deepE]; rfl
theorem deepT_eq (t : T) : deepT t = IntKind.wrap .i64 (deepTs t.l 0 + 1) := by cases t; rw [deepT]; rfl
def limE (e : E) : Option (Int × Int) := (deepE e 40).map fun x => (x.line, x.col)
def limT (t : T) (a b : Int) : Option (Int × Int) := if 40 < deepT t then some (a, b) else none
def limFs : List Fld → Option (Int × Int)
  | [] => none
  | f :: r => match limT f.typ f.line f.col with
    | some x => some x
    | none => limFs r
def limFn (f : Fnc) : Option (Int × Int) := match limFs f.params with
  | some x => some x
  | none => match limT f.res f.line f.col with
    | some x => some x
    | none => limE f.body
def limFns : List Fnc → Option (Int × Int)
  | [] => none
  | f :: r => match limFn f with
    | some x => some x
    | none => limFns r
def limP (p : Pg) : Option (Int × Int) := match limFs p.inputs with
  | some x => some x
  | none => match limFns p.funs with
    | some x => some x
    | none => limE p.query
end Go.Proofs.Ytbmcafehpgimfaa.Px
namespace Go.Proofs.Ytbmcafehpgimfaa.Ps
set_option linter.unusedVariables false
open Go Go.RowKit Px
open Lx (Tok)

def deepV : Option E → V
  | some e => V.tup [eV e, V.one (bX true)]
  | none => V.tup [eV noE, V.one (bX false)]
def limX : Option (Int × Int) → List X
  | none => fine
  | some (a, b) => [iX 2, sX [], iX a, iX b]
theorem E.rows_at (ks : List E) (i : Nat) (h : i < ks.length) : (E.rows ks).getD i [] = E.row ks[i] := by
  have : Inhabited E := ⟨noE⟩
  rw [E.rows_map, rows_getD _ _ _ h, List.getD_eq_getElem?_getD, List.getElem?_eq_getElem h]
  rfl
theorem T.rows_at (ks : List T) (i : Nat) (h : i < ks.length) : (T.rows ks).getD i [] = T.row ks[i] := by
  have : Inhabited T := ⟨.mk 0 []⟩
  rw [T.rows_map, rows_getD _ _ _ h, List.getD_eq_getElem?_getD, List.getElem?_eq_getElem h]
  rfl
theorem L_deep (ks : List E) (hk : ks.length < 9223372036854775807) (n : Nat) (hn : n ≤ 40) (H : ∀ x ∈ ks, Cal 57 [eV x, nV (Int.ofNat n)] [] (RV (deepV (deepE x n)))) (x4 x5 : Int) (s6 : ByteArray) (x7 x8 : Int) : ∀ (d i : Nat), i ≤ ks.length → ks.length - i = d →
    Ev (fun m k z => l57_0 m (Ak k) z (Int.ofNat n + 1) (E.rows ks) (Int.ofNat ks.length) (Int.ofNat i) x4 x5 s6 x7 x8) (RV (deepV (deepEs (ks.drop i) n))) := by
  intro d
  induction d with
  | zero =>
    intro i hi hd
    rw [List.drop_eq_nil_of_le (by omega), deepEs]
    refine Ev.step ?_
    simp only [l57_0_eq]
    refine Ev.no (lt_no i _ (by omega)) ?_
    simp only [q57_3_eq]
    refine Ev.of fun m k z => ?_
    unfold deepV eV noE
    simp only [E.rows_nil, E.kids]
    rfl
  | succ d ih =>
    intro i hi hd
    have hlt : i < ks.length := by omega
    have hat := E.rows_at ks i hlt
    rw [E.row_eq] at hat
    rw [List.drop_eq_getElem_cons hlt, deepEs]
    refine Ev.step ?_
    simp only [l57_0_eq]
    refine Ev.yes (lt_yes i _ hlt) ?_
    simp only [q57_1_eq, tn, hat]
    refine Ev.yes (in_range i _ (by rw [E.rows_len]; exact hlt)) ?_
    have hw : IntKind.wrap .i64 (Int.ofNat n + 1 - 1) = Int.ofNat n := by rw [wrap_in _ (by simp only [Int.ofNat_eq_natCast]; omega) (by simp only [Int.ofNat_eq_natCast]; omega)]; omega
    rw [hw]
    have hc := H ks[i] (List.getElem_mem hlt)
    cases hx : deepE ks[i] n with
    | some y =>
      rw [hx] at hc
      exact v_t2a8IISL1L1L8IIoB hc (Ev.yes rfl (Ev.ret _))
    | none =>
      rw [hx] at hc
      refine v_t2a8IISL1L1L8IIoB hc (Ev.no rfl ?_)
      simp only [q57_2_eq, wrap_up i (by omega)]
      exact ih (i + 1) (by omega) (by omega)
/-! Every list within is short. -/
mutual
def SmallE : E → Prop
  | .mk _ _ _ _ _ ks _ _ => ks.length < 9223372036854775807 ∧ SmallEs ks
def SmallEs : List E → Prop
  | [] => True
  | x :: r => SmallE x ∧ SmallEs r
end
mutual
theorem C_deep : ∀ (e : E), SmallE e → ∀ n, n ≤ 40 → Cal 57 [eV e, nV (Int.ofNat n)] [] (RV (deepV (deepE e n)))
  | e, hs, 0, _ => by
    rw [deepE_zero]
    refine call57 _ _ _ _ _ _ _ _ _ ?_
    simp only [e57_eq]
    exact Ev.yes rfl (Ev.ret _)
  | .mk k m s ns os ks a b, hs, n + 1, hn => by
    rw [SmallE] at hs
    rw [deepE_succ]
    refine call57 _ _ _ _ _ _ _ _ _ ?_
    simp only [e57_eq]
    refine Ev.no (decide_eq_false (by simp only [Int.ofNat_eq_natCast]; omega)) ?_
    simp only [q57_0_eq]
    have := L_deep ks hs.1 n (by omega) (C_deepAll ks hs.2 n (by omega))
    have h2 := fun (x4 x5 : Int) (s6 : ByteArray) (x7 x8 : Int) => Ev.diag (this x4 x5 s6 x7 x8 _ 0 (Nat.zero_le _) rfl)
    have e1 : Int.ofNat (E.rows (E.mk k m s ns os ks a b).kids).length = Int.ofNat ks.length := congrArg Int.ofNat (E.rows_len ks)
    rw [e1]
    exact h2 _ _ _ _ _
theorem C_deepAll : ∀ (ks : List E), SmallEs ks → ∀ n, n ≤ 40 → ∀ x ∈ ks, Cal 57 [eV x, nV (Int.ofNat n)] [] (RV (deepV (deepE x n)))
  | [], _, _, _, x, hx => by cases hx
  | y :: r, hs, n, hn, x, hx => by
    rw [SmallEs] at hs
    rcases List.mem_cons.1 hx with h | h
    · rw [h]; exact C_deep y hs.1 n hn
    · exact C_deepAll r hs.2 n hn x h
end
theorem C_limit (e : E) (hs : SmallE e) : Cal 25 [eV e] [] (RV (V.agg (limX (limE e)))) := by
  refine call25 _ _ _ _ _ _ _ _ ?_
  simp only [e25_eq]
  have h := C_deep e hs 40 (by decide)
  unfold limE
  cases hd : deepE e 40 with
  | some y =>
    rw [hd] at h
    exact v_t2a8IISL1L1L8IIoB h (Ev.yes rfl (Ev.ret _))
  | none =>
    rw [hd] at h
    refine v_t2a8IISL1L1L8IIoB h (Ev.no rfl ?_)
    exact Ev.of fun m k n => by rw [q25_0_eq]; rfl
end Go.Proofs.Ytbmcafehpgimfaa.Ps
