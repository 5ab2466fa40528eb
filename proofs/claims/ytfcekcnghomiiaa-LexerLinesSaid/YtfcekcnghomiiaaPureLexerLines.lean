/- LexerLines: a text after a line's end scans as it does alone, its lines counted on; for every two strings; no condition. -/
import Derived.Test.YtfcekcnghomiiaaLexH
import Derived.Test.YtfcekcnghomiiaaX26
import Derived.Test.YtfcekcnghomiiaaX27
import Derived.Test.YtfcekcnghomiiaaLexJ
namespace Go.Proofs.Ytfcekcnghomiiaa.Pure
open Go.RowKit Go.Proofs.Ytfcekcnghomiiaa Go.Proofs.Ytfcekcnghomiiaa.X Go.Proofs.Ytfcekcnghomiiaa.Lx Go.Proofs.YtfcekcnghomiiaaW.PrintWords Go.Proofs.YtfcekcnghomiiaaW.PrintLast

theorem scan_tok_line : ∀ (m : Nat) (l : List UInt8) (line col : Int) (ts : List Tok), l.length ≤ m → scan l line col = .ok ts → ∀ t ∈ ts, line ≤ t.line ∧ t.line ≤ line + (l.length : Int) := by
  intro m
  induction m with
  | zero =>
    intro l line col ts hl h t ht
    cases l with
    | nil =>
      rw [scan] at h
      cases h
      have : t = ⟨5, [], 0, line, col⟩ := by simpa using ht
      rw [this]
      simp
    | cons c r => simp at hl
  | succ m ih =>
    intro l line col ts hl h t ht
    cases l with
    | nil =>
      rw [scan] at h
      cases h
      have : t = ⟨5, [], 0, line, col⟩ := by simpa using ht
      rw [this]
      simp
    | cons c r =>
      rw [List.length_cons] at hl ⊢
      rw [scan] at h
      by_cases c10 : c.toNat = 10
      · rw [if_pos c10] at h
        have := ih r _ _ ts (by omega) h t ht
        omega
      · rw [if_neg c10] at h
        by_cases cw : ws c = true
        · rw [if_pos cw] at h
          have := ih r _ _ ts (by omega) h t ht
          omega
        · rw [if_neg cw] at h
          by_cases c35 : c.toNat = 35
          · rw [if_pos c35] at h
            have hd : (r.dropWhile nnl).length ≤ r.length := (List.dropWhile_sublist nnl).length_le
            have := ih (r.dropWhile nnl) _ _ ts (by omega) h t ht
            omega
          · rw [if_neg c35] at h
            cases htk : tok (c :: r) with
            | bad e w => rw [htk] at h; cases h
            | ok k w n =>
              rw [htk] at h
              simp only [] at h
              cases hs : scan (r.drop (w.length - 1)) line (col + w.length) with
              | error f => rw [hs] at h; cases h
              | ok l2 =>
                rw [hs] at h
                cases h
                rcases List.mem_cons.1 ht with rfl | ht2
                · show line ≤ line ∧ line ≤ _
                  omega
                · have := ih (r.drop (w.length - 1)) line (col + w.length) l2 (by rw [List.length_drop]; omega) hs t ht2
                  rw [List.length_drop] at this
                  omega

theorem nls_drop (l : List UInt8) (i : Nat) (c : UInt8) (t : List UInt8) (h : l.drop i = c :: t) : nls (l.drop i) = (if c.toNat = 10 then 1 else 0) + nls t := by rw [h]; rfl

theorem lines_l0 (l : List UInt8) (hl : l.length ≤ 100000) : ∀ (d i : Nat), i ≤ l.length → l.length - i = d → ∀ (a : Nat), a ≤ i → Ev (fun k => sortilegelaw05_lines.l0 k (bx l) (a : Int) (i : Int)) ((a + nls (l.drop i) : Nat) : Int) := by
  intro d
  induction d with
  | zero =>
    intro i hi hd a ha
    refine ev0 fun k => ?_
    simp only [sortilegelaw05_lines.l0]
    rw [if_neg (by rw [bx_size]; omega), List.drop_eq_nil_of_le (by omega)]
    simp [nls]
  | succ d ih =>
    intro i hi hd a ha
    rcases drop_cases l i hi with ⟨e, _⟩ | ⟨hlt, c, t, hc, ht⟩
    · omega
    · have hb := bt_bx l i c t hc
      have hn := nls_drop l i c t hc
      by_cases c10 : c.toNat = 10
      · have h2 := ih (i + 1) (by omega) (by omega) (a + 1) (by omega)
        refine ev1 h2 fun k hk => ?_
        simp only [sortilegelaw05_lines.l0]
        rw [if_pos (by rw [bx_size]; omega), if_pos (by omega), hb, if_pos (by omega), w1 a (by omega), w1 i (by omega)]
        rw [hk, hn, if_pos c10, ht]
        congr 1
        omega
      · have h2 := ih (i + 1) (by omega) (by omega) a (by omega)
        refine ev1 h2 fun k hk => ?_
        simp only [sortilegelaw05_lines.l0]
        rw [if_pos (by rw [bx_size]; omega), if_pos (by omega), hb, if_neg (by omega), w1 i (by omega)]
        rw [hk, hn, if_neg c10, ht]
        congr 1
        omega

theorem lines_f (l : List UInt8) (hl : l.length ≤ 100000) : Ev (fun k => sortilegelaw05_lines.f k (bx l)) ((nls l : Nat) : Int) := by
  refine ev1z (lines_l0 l hl _ 0 (by omega) rfl 0 (by omega)) fun k hk => ?_
  unfold sortilegelaw05_lines.f
  simpa using hk

theorem same36 (x : S36) : (!((x.f0) == (x.f0)) || (!(((x.f1).toList) == ((x.f1).toList)) || (!((x.f2) == (x.f2)) || (!((x.f3) == (x.f3)) || (!((x.f4) == (x.f4))))))) = false := by
  simp

section
variable (pre kk : List Tok) (e : Tok) (n : Nat)

theorem lines_loop (hp : pre.length ≤ 100000) (hk : kk.length ≤ 100000) (hn : n ≤ 100000) (hln : ∀ t ∈ kk, 0 ≤ t.line ∧ t.line ≤ 100000) : ∀ (d i : Nat), i ≤ pre.length + kk.length → pre.length + kk.length - i = d →
    Ev (fun k => sortilegelaw05_LexerLines.l0 k ((pre ++ [e]).map t36) (kk.map t36) ((pre ++ kk.map (shTok n)).map t36) (n : Int) (i : Int)) true := by
  have l1 : (((pre ++ [e]).map t36).length : Int) = (pre.length : Int) + 1 := by rw [List.length_map, List.length_append, List.length_singleton]; omega
  have l2 : ((kk.map t36).length : Int) = (kk.length : Int) := by rw [List.length_map]
  have l3 : (((pre ++ kk.map (shTok n)).map t36).length : Int) = (pre.length : Int) + (kk.length : Int) := by rw [List.length_map, List.length_append, List.length_map]; omega
  have ew : wrap64 ((((pre ++ [e]).map t36).length : Int) - 1) = (pre.length : Int) := by rw [l1, wid (by omega) (by omega)]; omega
  intro d
  induction d with
  | zero =>
    intro i hi hd
    have hj : Ev (fun k => sortilegelaw05_LexerLines.j10 k) true := by
      refine ev1 awake_f fun k hk2 => ?_
      simp only [sortilegelaw05_LexerLines.j10]
      rw [hk2]
      rfl
    refine ev1 hj fun k hk2 => ?_
    simp only [sortilegelaw05_LexerLines.l0]
    rw [if_neg (by rw [l3]; omega)]
    exact hk2
  | succ d ih =>
    intro i hi hd
    have h2 := ih (i + 1) (by omega) (by omega)
    by_cases hlt : i < pre.length
    · have hj9 : Ev (fun k => sortilegelaw05_LexerLines.j9 k ((pre ++ [e]).map t36) (kk.map t36) ((pre ++ kk.map (shTok n)).map t36) (n : Int) (i : Int)) true := by
        refine ev1 h2 fun k hk2 => ?_
        simp only [sortilegelaw05_LexerLines.j9]
        rw [ew, if_neg (by omega), w1 i (by omega)]
        exact hk2
      have hj8 : Ev (fun k => sortilegelaw05_LexerLines.j8 k ((pre ++ [e]).map t36) (kk.map t36) ((pre ++ kk.map (shTok n)).map t36) (n : Int) (i : Int) false) true := by
        refine ev1 hj9 fun k hk2 => ?_
        simp only [sortilegelaw05_LexerLines.j8]
        rw [if_neg Bool.false_ne_true]
        exact hk2
      have hj7 : Ev (fun k => sortilegelaw05_LexerLines.j7 k ((pre ++ [e]).map t36) (kk.map t36) ((pre ++ kk.map (shTok n)).map t36) (n : Int) (i : Int)) true := by
        refine ev1 hj8 fun k hk2 => ?_
        simp only [sortilegelaw05_LexerLines.j7]
        have ha : i < (pre ++ [e]).length := by rw [List.length_append]; omega
        have hb : i < (pre ++ kk.map (shTok n)).length := by rw [List.length_append]; omega
        rw [ew, if_pos (by omega), if_pos (by omega), if_pos (by rw [l3]; omega), if_pos (by rw [l1]; omega), rd36 (pre ++ [e]) i ha, rd36 (pre ++ kk.map (shTok n)) i hb, List.getElem_append_left hlt, List.getElem_append_left hlt, same36]
        exact hk2
      refine ev1 hj7 fun k hk2 => ?_
      simp only [sortilegelaw05_LexerLines.l0]
      rw [if_pos (by rw [l3]; omega)]
      exact hk2
    · have hj9 : Ev (fun k => sortilegelaw05_LexerLines.j9 k ((pre ++ [e]).map t36) (kk.map t36) ((pre ++ kk.map (shTok n)).map t36) (n : Int) (i : Int)) true := by
        refine ev1 h2 fun k hk2 => ?_
        simp only [sortilegelaw05_LexerLines.j9]
        have hb : i < (pre ++ kk.map (shTok n)).length := by rw [List.length_append, List.length_map]; omega
        have hj : i - pre.length < kk.length := by omega
        have hj' : i - pre.length < (kk.map (shTok n)).length := by rw [List.length_map]; omega
        have e1 : wrap64 (wrap64 ((i : Int) - (((pre ++ [e]).map t36).length : Int)) + 1) = ((i - pre.length : Nat) : Int) := by
          rw [l1, wid (x := (i : Int) - ((pre.length : Int) + 1)) (by omega) (by omega), wid (by omega) (by omega)]; omega
        have hl := hln kk[i - pre.length] (List.getElem_mem hj)
        have e2 : (pre ++ kk.map (shTok n))[i]'hb = shTok n (kk[i - pre.length]'hj) := by
          rw [List.getElem_append_right (by omega), List.getElem_map]
        have e3 : wrap64 ((t36 (kk[i - pre.length]'hj)).f3 + (n : Int)) = (t36 (shTok n (kk[i - pre.length]'hj))).f3 := by
          show wrap64 ((kk[i - pre.length]'hj).line + (n : Int)) = (kk[i - pre.length]'hj).line + (n : Int)
          exact wid (by omega) (by omega)
        rw [ew, e1, if_pos (by omega), if_pos (by omega), if_pos (by rw [l2]; omega), if_pos (by omega), if_pos (by rw [l3]; omega), rd36 kk (i - pre.length) hj, rd36 (pre ++ kk.map (shTok n)) i hb, e2, e3]
        have e4 := same36 (t36 (shTok n (kk[i - pre.length]'hj)))
        have e5 : (!((t36 (shTok n (kk[i - pre.length]'hj))).f0 == (t36 (kk[i - pre.length]'hj)).f0) || (!((t36 (shTok n (kk[i - pre.length]'hj))).f1.toList == (t36 (kk[i - pre.length]'hj)).f1.toList) || (!((t36 (shTok n (kk[i - pre.length]'hj))).f2 == (t36 (kk[i - pre.length]'hj)).f2) || (!((t36 (shTok n (kk[i - pre.length]'hj))).f3 == (t36 (shTok n (kk[i - pre.length]'hj))).f3) || (!((t36 (shTok n (kk[i - pre.length]'hj))).f4 == (t36 (kk[i - pre.length]'hj)).f4)))))) = false := e4
        rw [e5, if_neg Bool.false_ne_true, w1 i (by omega)]
        exact hk2
      have hj8 : Ev (fun k => sortilegelaw05_LexerLines.j8 k ((pre ++ [e]).map t36) (kk.map t36) ((pre ++ kk.map (shTok n)).map t36) (n : Int) (i : Int) false) true := by
        refine ev1 hj9 fun k hk2 => ?_
        simp only [sortilegelaw05_LexerLines.j8]
        rw [if_neg Bool.false_ne_true]
        exact hk2
      have hj7 : Ev (fun k => sortilegelaw05_LexerLines.j7 k ((pre ++ [e]).map t36) (kk.map t36) ((pre ++ kk.map (shTok n)).map t36) (n : Int) (i : Int)) true := by
        refine ev1 hj8 fun k hk2 => ?_
        simp only [sortilegelaw05_LexerLines.j7]
        rw [ew, if_neg (by omega)]
        exact hk2
      refine ev1 hj7 fun k hk2 => ?_
      simp only [sortilegelaw05_LexerLines.l0]
      rw [if_pos (by rw [l3]; omega)]
      exact hk2
end

theorem LexerLines : sortilegelaw05_LexerLines.Pure := by
  intro s s2 _ _
  obtain ⟨a, rfl⟩ : ∃ l, s = bx l := ⟨_, (bx_self s).symm⟩
  obtain ⟨b, rfl⟩ : ∃ l, s2 = bx l := ⟨_, (bx_self s2).symm⟩
  apply Ev.rounds
  by_cases h9 : 9000 < a.length ∨ 9000 < b.length
  · have hj : Ev (fun k => sortilegelaw05_LexerLines.j0 k (bx a) (bx b) true) true := by
      refine ev1 awake_f fun k hk => ?_
      simp only [sortilegelaw05_LexerLines.j0]
      rw [if_pos trivial, hk]
      rfl
    refine ev1z hj fun k hk => ?_
    unfold sortilegelaw05_LexerLines.f
    by_cases h1 : 9000 < a.length
    · rw [if_pos (by rw [bx_size]; omega)]
      exact hk
    · rw [if_neg (by rw [bx_size]; omega), decide_eq_true (by rw [bx_size]; omega)]
      exact hk
  have ha : a.length ≤ 9000 := by omega
  have hb : b.length ≤ 9000 := by omega
  have main : Ev (fun k => sortilegelaw05_LexerLines.j1 k (bx a) (bx b)) true := by
    have e1 : bx a ++ (⟨#[10]⟩ : ByteArray) = bx (a ++ [10]) := bx_append a [10]
    have e2 : bx (a ++ [10]) ++ bx b = bx (a ++ 10 :: b) := by rw [bx_append, List.append_assoc]; rfl
    have z1 : (bx a).size + 1 ≤ 9223372036854775807 := by rw [bx_size]; omega
    have z2 : (bx (a ++ [10])).size + (bx b).size ≤ 9223372036854775807 := by rw [bx_size, bx_size, List.length_append, List.length_singleton]; omega
    have t1 := tokens_f (a ++ [10])
    have t2 := tokens_f b
    have t3 := tokens_f (a ++ 10 :: b)
    have x1 : lex (a ++ [10]) = scan (a ++ [10]) 1 1 := by unfold lex; rw [if_neg (by rw [List.length_append, List.length_singleton]; omega)]
    have x2 : lex b = scan b 1 1 := by unfold lex; rw [if_neg (by omega)]
    have x3 : lex (a ++ 10 :: b) = scan (a ++ 10 :: b) 1 1 := by unfold lex; rw [if_neg (by rw [List.length_append, List.length_cons]; omega)]
    rw [x1] at t1
    rw [x2] at t2
    rw [x3] at t3
    rcases scan_lines _ a 1 1 (Nat.le_refl _) with ⟨pre, hpre⟩ | ⟨f, hf, hbad⟩
    · have hn : nls (a ++ [10]) = nls a + 1 := by rw [nls_append]; rfl
      have hna := nls_le a
      have y1 : scan (a ++ [10]) 1 1 = .ok (pre ++ [⟨5, [], 0, 1 + (nls a : Int) + 1, 1⟩]) := by
        rw [hpre [], scan]; rfl
      have y3 : scan (a ++ 10 :: b) 1 1 = put pre (sh ((nls a + 1 : Nat) : Int) (scan b 1 1)) := by
        rw [hpre b, show (1 : Int) + (nls a : Int) + 1 = 1 + ((nls a + 1 : Nat) : Int) by omega, scan_sh _ b 1 1 _ (Nat.le_refl _)]
      rw [y1] at t1
      rw [y3] at t3
      have ln := lines_f (a ++ [10]) (by rw [List.length_append, List.length_singleton]; omega)
      rw [hn] at ln
      have hpl : pre.length ≤ 100000 := by
        have := scan_len _ (a ++ [10]) 1 1 _ (Nat.le_refl _) y1
        rw [List.length_append, List.length_append, List.length_singleton, List.length_singleton] at this
        omega
      cases hs : scan b 1 1 with
      | error g =>
        rw [hs] at t2 t3
        have hge := scan_err _ b 1 1 g (Nat.le_refl _) hs
        have hg1 := scan_line _ b 1 1 g (Nat.le_refl _) hs
        obtain ⟨_, _, _, hg2, _⟩ := scan_fault _ b 1 1 g (Nat.le_refl _) hs
        obtain ⟨K1, t1⟩ := t1
        obtain ⟨K2, t2⟩ := t2
        obtain ⟨K3, t3⟩ := t3
        obtain ⟨K4, ln⟩ := ln
        obtain ⟨K5, aw⟩ := awake_f
        refine ⟨K1 + K2 + K3 + K4 + K5 + 2, fun k hk => ?_⟩
        obtain ⟨k, rfl⟩ : ∃ m, k = m + 2 := ⟨k - 2, by omega⟩
        replace t1 := t1 (k + 1) (by omega)
        replace t2 := t2 (k + 1) (by omega)
        replace t3 := t3 (k + 1) (by omega)
        replace ln := ln k (by omega)
        replace aw := aw k (by omega)
        simp only [] at t1 t2 t3 ln aw
        show sortilegelaw05_LexerLines.j1 (k + 1 + 1) (bx a) (bx b) = _
        rw [sortilegelaw05_LexerLines.j1]
        rw [if_pos z1, e1, t1, Option.bind_some, t2, Option.bind_some, if_pos z2, e2, t3, Option.bind_some]
        refine (if_pos rfl).trans ?_
        simp only [sortilegelaw05_LexerLines.j2]
        rw [ln, Option.bind_some]
        have e3 : wrap64 (g.line + ((nls a + 1 : Nat) : Int)) = g.line + ((nls a + 1 : Nat) : Int) := wid (by omega) (by omega)
        refine (if_neg hge).trans ?_
        refine (if_pos ?_).trans ?_
        · simp only [out36, put, sh]
          rw [e3]
          simp
        · refine (if_pos rfl).trans ?_
          rw [aw]
          rfl
      | ok kk =>
        rw [hs] at t2 t3
        have hkl := scan_len _ b 1 1 kk (Nat.le_refl _) hs
        have hll := scan_tok_line _ b 1 1 kk (Nat.le_refl _) hs
        have lp := lines_loop pre kk ⟨5, [], 0, 1 + (nls a : Int) + 1, 1⟩ (nls a + 1) hpl (by omega) (by omega) (fun t ht => by have := hll t ht; omega) _ 0 (by omega) rfl
        obtain ⟨K1, t1⟩ := t1
        obtain ⟨K2, t2⟩ := t2
        obtain ⟨K3, t3⟩ := t3
        obtain ⟨K4, ln⟩ := ln
        obtain ⟨K5, lp⟩ := lp
        refine ⟨K1 + K2 + K3 + K4 + K5 + 5, fun k hk => ?_⟩
        obtain ⟨k, rfl⟩ : ∃ m, k = m + 5 := ⟨k - 5, by omega⟩
        replace t1 := t1 (k + 4) (by omega)
        replace t2 := t2 (k + 4) (by omega)
        replace t3 := t3 (k + 4) (by omega)
        replace ln := ln (k + 3) (by omega)
        replace lp := lp k (by omega)
        simp only [] at t1 t2 t3 ln lp
        show sortilegelaw05_LexerLines.j1 (k + 4 + 1) (bx a) (bx b) = _
        rw [sortilegelaw05_LexerLines.j1]
        rw [if_pos z1, e1, t1, Option.bind_some, t2, Option.bind_some, if_pos z2, e2, t3, Option.bind_some]
        refine (if_pos rfl).trans ?_
        show sortilegelaw05_LexerLines.j2 (k + 3 + 1) _ _ _ _ _ _ _ _ _ _ _ _ = _
        rw [sortilegelaw05_LexerLines.j2]
        rw [ln, Option.bind_some]
        refine (if_pos rfl).trans ?_
        show sortilegelaw05_LexerLines.j3 (k + 2 + 1) _ _ _ _ _ _ _ _ = _
        rw [sortilegelaw05_LexerLines.j3]
        refine (if_pos rfl).trans ?_
        have e4 : ((((pre ++ kk.map (shTok ((nls a + 1 : Nat) : Int))).map t36).length : Int) != wrap64 (wrap64 ((((pre ++ [(⟨5, [], 0, 1 + (nls a : Int) + 1, 1⟩ : Tok)]).map t36).length : Int) - 1) + ((kk.map t36).length : Int))) = false := by
          rw [List.length_map, List.length_map, List.length_map, List.length_append, List.length_append, List.length_map, List.length_singleton, wid (x := ((pre.length + 1 : Nat) : Int) - 1) (by omega) (by omega), wid (by omega) (by omega)]
          simp
        suffices e5 : sortilegelaw05_LexerLines.j4 (k + 1 + 1) ((pre ++ [(⟨5, [], 0, 1 + (nls a : Int) + 1, 1⟩ : Tok)]).map t36) (kk.map t36) ((pre ++ kk.map (shTok ((nls a + 1 : Nat) : Int))).map t36) ((nls a + 1 : Nat) : Int) ((((pre ++ kk.map (shTok ((nls a + 1 : Nat) : Int))).map t36).length : Int) != wrap64 (wrap64 ((((pre ++ [(⟨5, [], 0, 1 + (nls a : Int) + 1, 1⟩ : Tok)]).map t36).length : Int) - 1) + ((kk.map t36).length : Int))) = some true by exact e5
        rw [e4]
        rw [sortilegelaw05_LexerLines.j4]
        rw [if_neg Bool.false_ne_true]
        rw [sortilegelaw05_LexerLines.j5]
        exact lp
    · have y1 := hbad []
      have y3 := hbad b
      rw [y1] at t1
      rw [y3] at t3
      obtain ⟨K1, t1⟩ := t1
      obtain ⟨K2, t2⟩ := t2
      obtain ⟨K3, t3⟩ := t3
      obtain ⟨K5, aw⟩ := awake_f
      refine ⟨K1 + K2 + K3 + K5 + 1, fun k hk => ?_⟩
      obtain ⟨k, rfl⟩ : ∃ m, k = m + 1 := ⟨k - 1, by omega⟩
      replace t1 := t1 k (by omega)
      replace t2 := t2 k (by omega)
      replace t3 := t3 k (by omega)
      replace aw := aw k (by omega)
      simp only [] at t1 t2 t3 aw
      show sortilegelaw05_LexerLines.j1 (k + 1) (bx a) (bx b) = _
      rw [sortilegelaw05_LexerLines.j1]
      rw [if_pos z1, e1, t1, Option.bind_some, t2, Option.bind_some, if_pos z2, e2, t3, Option.bind_some]
      refine (if_neg hf).trans ?_
      refine (if_pos ?_).trans ?_
      · simp only [out36]
        simp
      · refine (if_pos rfl).trans ?_
        rw [aw]
        rfl
  have hj0 : Ev (fun k => sortilegelaw05_LexerLines.j0 k (bx a) (bx b) false) true := by
    refine ev1 main fun k hk => ?_
    simp only [sortilegelaw05_LexerLines.j0]
    rw [if_neg Bool.false_ne_true]
    exact hk
  refine ev1z hj0 fun k hk => ?_
  unfold sortilegelaw05_LexerLines.f
  rw [if_neg (by rw [bx_size]; omega), decide_eq_false (by rw [bx_size]; omega)]
  exact hk

end Go.Proofs.Ytfcekcnghomiiaa.Pure
