/- The law: a text without inputs and functions is a program of its expression. -/
import Derived.Test.YtbmcafehpgimfaaKa
import Derived.Test.YtbmcafehpgimfaaVk
namespace Go.Proofs.Ytbmcafehpgimfaa.Ps
set_option linter.unusedVariables false
set_option linter.unusedSimpArgs false
open Go Go.RowKit Px
open Lx (Tok tok scan Flt)

abbrev YES : Out := RV (V.one (bX true))
theorem C_awake : Cal 10 [] [] YES := by
  refine ⟨100, fun m k n h1 h2 h3 => ?_⟩
  obtain ⟨k, rfl⟩ : ∃ k', k = k' + 100 := ⟨k - 100, by omega⟩
  exact awake_all k
theorem awake_then {K : Nat → Nat → Nat → Bool → Option Out} {Q : Nat → Nat → Nat → D → Option Out} (h : Ev (fun m k n => K m k n true) YES) : Ev (fun m k n => r_oB (Ak k false 10 [] []) (K m k n) (Q m k n)) YES := v_oB C_awake h
theorem awake_end {Q : Nat → Nat → Nat → D → Option Out} : Ev (fun m k n => r_oB (Ak k false 10 [] []) (fun c => some (RV (V.one (bX c)))) (Q m k n)) YES := v_oB C_awake (Ev.ret _)
theorem wholeE_eq (l : List Tok) : wholeE l = thenR (pw l .expr 0) fun e j => run (pw l) l (.knd 5 (.ret e) .fail) j := run_call _ _ _
theorem wholeP_eq (l : List Tok) : wholeP l = thenR (pw l .program 0) fun e j => run (pw l) l (.knd 5 (.ret e) .fail) j := run_call _ _ _
theorem run_end {α : Type} (l : List Tok) (a : α) (j : Nat) : run (pw l) l (.knd 5 (.ret a) .fail) j = bif (tk l j).kind == 5 then .ok a j else .no j := by
  rw [run]
  cases (tk l j).kind == 5 <;> rfl
theorem wholeE_some {l : List Tok} {e : E} {j : Nat} (h : wholeE l = .ok e j) : pw l .expr 0 = .ok e j ∧ ((tk l j).kind == 5) = true := by
  rw [wholeE_eq] at h
  cases hp : pw l .expr 0 with
  | no k => rw [hp] at h; cases h
  | out => rw [hp] at h; cases h
  | ok a k =>
    rw [hp] at h
    replace h : run (pw l) l (.knd 5 (.ret a) .fail) k = .ok e j := h
    rw [run_end] at h
    cases hk : (tk l k).kind == 5 with
    | false => rw [hk] at h; cases h
    | true => rw [hk] at h; cases h; exact ⟨rfl, hk⟩
theorem wholeP_some {l : List Tok} {e : Pg} {j : Nat} (h : wholeP l = .ok e j) : pw l .program 0 = .ok e j ∧ ((tk l j).kind == 5) = true := by
  rw [wholeP_eq] at h
  cases hp : pw l .program 0 with
  | no k => rw [hp] at h; cases h
  | out => rw [hp] at h; cases h
  | ok a k =>
    rw [hp] at h
    replace h : run (pw l) l (.knd 5 (.ret a) .fail) k = .ok e j := h
    rw [run_end] at h
    cases hk : (tk l k).kind == 5 with
    | false => rw [hk] at h; cases h
    | true => rw [hk] at h; cases h; exact ⟨rfl, hk⟩
theorem wholeE_of {l : List Tok} {e : E} {j : Nat} (h : pw l .expr 0 = .ok e j) (hk : ((tk l j).kind == 5) = true) : wholeE l = .ok e j := by
  rw [wholeE_eq, h]
  show run (pw l) l (.knd 5 (.ret e) .fail) j = _
  rw [run_end, hk]
  rfl
theorem wholeP_of {l : List Tok} {e : Pg} {j : Nat} (h : pw l .program 0 = .ok e j) (hk : ((tk l j).kind == 5) = true) : wholeP l = .ok e j := by
  rw [wholeP_eq, h]
  show run (pw l) l (.knd 5 (.ret e) .fail) j = _
  rw [run_end, hk]
  rfl
/-- What an answer without a fault tells. -/
theorem exprF_ok {s : List UInt8} (h : (exprF s).2.e = 0) : s.length ≤ 20000 ∧ ∃ l j, scan s 1 1 = .ok l ∧ wholeE l = .ok (exprF s).1 j ∧ limE (exprF s).1 = none ∧ (exprF s).2 = okF := by
  unfold exprF at h ⊢
  by_cases hs : 20000 < s.length
  · rw [if_pos hs] at h; cases h
  rw [if_neg hs] at h ⊢
  refine ⟨by omega, ?_⟩
  cases hsc : scan s 1 1 with
  | error g => rw [hsc] at h; exact absurd h (scan_bad _ s 1 1 g (Nat.lt_succ_self _) hsc)
  | ok l =>
    rw [hsc] at h
    have hfew := scan_few (by omega) hsc
    simp only at h ⊢
    unfold exprL at h ⊢
    cases hw : wholeE l with
    | out =>
      rw [wholeE_eq] at hw
      cases hp : pw l .expr 0 with
      | no k => rw [hp] at hw; cases hw
      | out => exact absurd hp (pw_ends hfew.1.good _ 0 hfew.2.2)
      | ok a k =>
        rw [hp] at hw
        replace hw : run (pw l) l (.knd 5 (.ret a) .fail) k = .out := hw
        rw [run_end] at hw
        cases hk : (tk l k).kind == 5 with
        | false => rw [hk] at hw; cases hw
        | true => rw [hk] at hw; cases hw
    | no j => rw [hw] at h; cases h
    | ok a j =>
      rw [hw] at h
      simp only at h ⊢
      cases hx : limE a with
      | some x => rw [hx] at h; cases h
      | none => exact ⟨l, j, rfl, hw, hx, rfl⟩
theorem progF_ok {s : List UInt8} (h : (progF s).2.e = 0) : s.length ≤ 20000 ∧ ∃ l j, scan s 1 1 = .ok l ∧ wholeP l = .ok (progF s).1 j ∧ limP (progF s).1 = none ∧ (progF s).2 = okF := by
  unfold progF at h ⊢
  by_cases hs : 20000 < s.length
  · rw [if_pos hs] at h; cases h
  rw [if_neg hs] at h ⊢
  refine ⟨by omega, ?_⟩
  cases hsc : scan s 1 1 with
  | error g => rw [hsc] at h; exact absurd h (scan_bad _ s 1 1 g (Nat.lt_succ_self _) hsc)
  | ok l =>
    rw [hsc] at h
    have hfew := scan_few (by omega) hsc
    simp only at h ⊢
    unfold progL_ at h ⊢
    cases hw : wholeP l with
    | out =>
      rw [wholeP_eq] at hw
      cases hp : pw l .program 0 with
      | no k => rw [hp] at hw; cases hw
      | out => exact absurd hp (pw_ends hfew.1.good _ 0 hfew.2.2)
      | ok a k =>
        rw [hp] at hw
        replace hw : run (pw l) l (.knd 5 (.ret a) .fail) k = .out := hw
        rw [run_end] at hw
        cases hk : (tk l k).kind == 5 with
        | false => rw [hk] at hw; cases hw
        | true => rw [hk] at hw; cases hw
    | no j => rw [hw] at h; cases h
    | ok a j =>
      rw [hw] at h
      simp only at h ⊢
      cases hx : limP a with
      | some x => rw [hx] at h; cases h
      | none => exact ⟨l, j, rfl, hw, hx, rfl⟩
/-- An expression's text is a program's. -/
theorem progF_of {s : List UInt8} (h : (exprF s).2.e = 0) : progF s = (⟨[], [], (exprF s).1⟩, okF) ∧ wE (exprF s).1 ≤ 1000000 := by
  obtain ⟨hs, l, j, hsc, hw, hx, _⟩ := exprF_ok h
  generalize (exprF s).1 = e at hw hx
  have hfew := scan_few hs hsc
  obtain ⟨h1, h2⟩ := wholeE_some hw
  have h3 := query_of hfew.1.good hfew.2.2 h1
  unfold progF
  rw [if_neg (by omega), hsc]
  simp only
  unfold progL_
  rw [wholeP_of h3 h2]
  have h4 : limP ⟨[], [], e⟩ = none := hx
  refine ⟨?_, ?_⟩
  · simp only [h4]
  · have h5 : wE e + 0 ≤ 0 + j := pw_wt h1
    have h6 := (pw_ok hfew.1.good hfew.2.2 h1).2
    have h7 := hfew.1.len
    omega
/-- And the other way round. -/
theorem exprF_of {s : List UInt8} (h : (progF s).2.e = 0) (hi : (progF s).1.inputs = []) (hf : (progF s).1.funs = []) : (exprF s).2.e = 0 := by
  obtain ⟨hs, l, j, hsc, hw, hx, _⟩ := progF_ok h
  generalize (progF s).1 = p at hw hx hi hf
  have hfew := scan_few hs hsc
  obtain ⟨h1, h2⟩ := wholeP_some hw
  have h3 := query_is hfew.1.good hfew.2.2 h1 hi hf
  unfold exprF
  rw [if_neg (by omega), hsc]
  simp only
  unfold exprL
  rw [wholeE_of h3 h2]
  have h4 : limE p.query = none := by
    unfold limP at hx
    rw [hi, hf] at hx
    exact hx
  simp only [h4]
  rfl
theorem lawQuery (s : List UInt8) : Cal 7 [V.one (X.d (D.str (bx s)))] [] YES := by
  refine call7 _ ?_
  simp only [e7_eq, bx_size]
  refine v_t2a10L5L14IISL1L1L8IIa4ISII (C_Program s) ?_
  refine v_t2a8IISL1L1L8IIa4ISII (C_Expr s) ?_
  by_cases hs : 9000 < s.length
  · have hd : decide (Int.ofNat s.length > 9000) = true := decide_eq_true (by show (9000 : Int) < Int.ofNat s.length; simp only [Int.ofNat_eq_natCast]; omega)
    exact Ev.yes hd (Ev.yes hd awake_end)
  have hd : decide (Int.ofNat s.length > 9000) = false := decide_eq_false (by show ¬ (9000 : Int) < Int.ofNat s.length; simp only [Int.ofNat_eq_natCast]; omega)
  refine Ev.no hd ?_
  by_cases hg : (exprF s).2.e = 0
  · refine Ev.no (by rw [hg]; rfl) ?_
    simp only [q7_0_eq]
    obtain ⟨hp, hw⟩ := progF_of hg
    obtain ⟨_, l, j, _, _, _, hf⟩ := exprF_ok hg
    rw [hp, hf]
    refine Ev.yes rfl (Ev.yes rfl (Ev.yes rfl ?_))
    exact v_oB (C_placed (exprF s).1 (by omega)) (Ev.yes rfl awake_end)
  · refine Ev.yes (by simpa using hg) (Ev.no hd ?_)
    by_cases hf : (progF s).2.e = 0
    · refine Ev.no (by rw [hf]; rfl) (Ev.yes ?_ awake_end)
      have hne : ¬ ((progF s).1.inputs = [] ∧ (progF s).1.funs = []) := fun ⟨a, b⟩ => hg (exprF_of hf a b)
      obtain ⟨hs', l, j, hsc, hwp, _, _⟩ := progF_ok hf
      have hfew := scan_few hs' hsc
      have h5 := pw_wt (wholeP_some hwp).1
      have h6 := (pw_ok hfew.1.good hfew.2.2 (wholeP_some hwp).1).2
      have h7 := hfew.1.len
      generalize (progF s).1 = p at hne h5
      have h8 : wFs p.inputs + wFns p.funs + wE p.query + 0 ≤ 0 + j := h5
      have h9 := wFs_len p.inputs
      have h10 := wFns_len p.funs
      rw [Fld.rows_len, Fnc.rows_len, add_wrap _ _ (by omega)]
      refine decide_eq_true ?_
      have : 0 < p.inputs.length + p.funs.length := by
        rcases hp : p.inputs with _ | ⟨x, r⟩
        · rcases hq : p.funs with _ | ⟨y, r2⟩
          · exact absurd ⟨hp, hq⟩ hne
          · simp
        · rw [List.length_cons]; omega
      show (0 : Int) < Int.ofNat _
      simp only [Int.ofNat_eq_natCast]
      omega
    · exact Ev.yes (by simpa using hf) awake_end
end Go.Proofs.Ytbmcafehpgimfaa.Ps
