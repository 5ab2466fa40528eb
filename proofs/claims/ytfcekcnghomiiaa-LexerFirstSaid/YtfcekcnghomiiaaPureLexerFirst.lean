/- LexerFirst: a fault is the first one: the text ahead of it has none, and the text up to it has the same, whatever follows a blank; for every two strings; no condition. -/
import Derived.Test.YtfcekcnghomiiaaLexH
import Derived.Test.YtfcekcnghomiiaaX23
import Derived.Test.YtfcekcnghomiiaaX22
import Derived.Test.YtfcekcnghomiiaaLexG
namespace Go.Proofs.Ytfcekcnghomiiaa.Pure
open Go.RowKit Go.Proofs.Ytfcekcnghomiiaa Go.Proofs.Ytfcekcnghomiiaa.X Go.Proofs.Ytfcekcnghomiiaa.Lx Go.Proofs.YtfcekcnghomiiaaW.PrintWords Go.Proofs.YtfcekcnghomiiaaW.PrintLast

theorem place_l0 (l : List UInt8) (hl : l.length ≤ 140737488351232) (col : Int) (hc : 0 ≤ col ∧ col ≤ 140737488351232) : ∀ (d at_ : Nat), at_ ≤ l.length → l.length - at_ = d → ∀ (line : Int), line ≤ 140737488351232 →
    Ev (fun k => sortilegelaw05_place.l0 k (bx l) line col (at_ : Int)) ((at_ : Int) + pl (l.drop at_) (line - 1).toNat + col - 1) := by
  have stop : ∀ (at_ : Nat), at_ ≤ l.length → ∀ line, Ev (fun k => sortilegelaw05_place.j1 k (bx l) line col (at_ : Int) false) ((at_ : Int) + col - 1) := by
    intro at_ ha line
    refine ev0 fun k => ?_
    simp only [sortilegelaw05_place.j1]
    rw [if_neg (by decide), wid (x := (at_ : Int) + col) (by omega) (by omega), wid (x := (at_ : Int) + col - 1) (by omega) (by omega)]
  intro d
  induction d with
  | zero =>
    intro at_ ha hd line hline
    rw [List.drop_eq_nil_of_le (by omega)]
    have : pl [] (line - 1).toNat = 0 := by cases (line - 1).toNat <;> rfl
    rw [this]
    refine ev1 (stop at_ ha line) fun k hk => ?_
    simp only [sortilegelaw05_place.l0]
    rw [if_neg (by rw [bx_size]; omega), hk]
    simp
  | succ d ih =>
    intro at_ ha hd line hline
    rcases drop_cases l at_ ha with ⟨e, _⟩ | ⟨hlt, c, t, hc', ht⟩
    · omega
    · have hb := bt_bx l at_ c t hc'
      by_cases h1 : line > 1
      · obtain ⟨n, hn⟩ : ∃ n : Nat, (line - 1).toNat = n + 1 := ⟨(line - 1).toNat - 1, by omega⟩
        have hgo : Ev (fun k => sortilegelaw05_place.l0 k (bx l) (if c.toNat = 10 then line - 1 else line) col ((at_ + 1 : Nat) : Int)) ((at_ : Int) + pl (l.drop at_) (line - 1).toNat + col - 1) := by
          have h2 := ih (at_ + 1) (by omega) (by omega) (if c.toNat = 10 then line - 1 else line) (by split <;> omega)
          rw [ht] at h2
          rw [hc', hn, pl]
          by_cases c10 : c.toNat = 10
          · rw [if_pos c10] at h2 ⊢
            rw [if_pos c10]
            rw [show (line - 1 - 1).toNat = n by omega] at h2
            rw [show ((at_ : Int) + ((1 + pl t n : Nat) : Int) + col - 1) = ((at_ + 1 : Nat) : Int) + (pl t n : Int) + col - 1 by omega]
            exact h2
          · rw [if_neg c10] at h2 ⊢
            rw [if_neg c10]
            rw [hn] at h2
            rw [show ((at_ : Int) + ((1 + pl t (n + 1) : Nat) : Int) + col - 1) = ((at_ + 1 : Nat) : Int) + (pl t (n + 1) : Int) + col - 1 by omega]
            exact h2
        have hj : Ev (fun k => sortilegelaw05_place.j1 k (bx l) line col (at_ : Int) true) ((at_ : Int) + pl (l.drop at_) (line - 1).toNat + col - 1) := by
          refine ev1 hgo fun k hk => ?_
          simp only [sortilegelaw05_place.j1]
          rw [if_pos trivial, if_pos (by omega), if_pos (by rw [bx_size]; omega), hb, w1 at_ (by omega)]
          by_cases c10 : c.toNat = 10
          · rw [if_pos (by omega), wid (x := line - 1) (by omega) (by omega)]
            rw [if_pos c10] at hk; exact hk
          · rw [if_neg (by omega)]
            rw [if_neg c10] at hk; exact hk
        refine ev1 hj fun k hk => ?_
        simp only [sortilegelaw05_place.l0]
        rw [if_pos (by rw [bx_size]; omega), decide_eq_true h1]
        exact hk
      · rw [show (line - 1).toNat = 0 by omega, pl_zero]
        refine ev1 (stop at_ ha line) fun k hk => ?_
        simp only [sortilegelaw05_place.l0]
        rw [if_pos (by rw [bx_size]; omega), decide_eq_false h1, hk]
        simp

theorem scan_bad {c : UInt8} {t : List UInt8} {line col e : Int} {w : List UInt8} (h10 : c.toNat ≠ 10) (hw : ws c = false) (h35 : c.toNat ≠ 35) (h : tok (c :: t) = .bad e w) : scan (c :: t) line col = .error ⟨e, w, line, col⟩ := by
  rw [scan, if_neg h10, if_neg (by rw [hw]; decide), if_neg h35, h]

theorem LexerFirst : sortilegelaw05_LexerFirst.Pure := by
  intro s more _ _
  obtain ⟨l, rfl⟩ : ∃ l, s = bx l := ⟨_, (bx_self s).symm⟩
  obtain ⟨q, rfl⟩ : ∃ l, more = bx l := ⟨_, (bx_self more).symm⟩
  apply Ev.rounds
  have h1 := tokens_f l
  have skip : ∀ a b c d, Ev (fun k => sortilegelaw05_LexerFirst.j0 k (bx l) (bx q) true a b c d) true := by
    intro a b c d
    refine ev1 awake_f fun k hk => ?_
    simp only [sortilegelaw05_LexerFirst.j0]
    rw [if_pos trivial, hk]
    rfl
  by_cases h9 : 9000 < l.length
  · refine ev2z h1 (skip (out36 [] (lex l)).2.1 (out36 [] (lex l)).2.2.1 (out36 [] (lex l)).2.2.2.1 (out36 [] (lex l)).2.2.2.2) fun k hk hk2 => ?_
    unfold sortilegelaw05_LexerFirst.f
    rw [hk]
    simp only [Option.bind_some]
    rw [if_pos (by rw [bx_size]; omega)]
    exact hk2
  by_cases h8 : 9000 < q.length
  · refine ev2z h1 (skip (out36 [] (lex l)).2.1 (out36 [] (lex l)).2.2.1 (out36 [] (lex l)).2.2.2.1 (out36 [] (lex l)).2.2.2.2) fun k hk hk2 => ?_
    unfold sortilegelaw05_LexerFirst.f
    rw [hk]
    simp only [Option.bind_some]
    rw [if_neg (by rw [bx_size]; omega), if_pos (by rw [bx_size]; omega)]
    exact hk2
  cases hx : lex l with
  | ok ts =>
    rw [hx] at h1
    refine ev2z h1 (skip 0 (bx []) 0 0) fun k hk hk2 => ?_
    unfold sortilegelaw05_LexerFirst.f
    rw [hk]
    simp only [Option.bind_some]
    rw [if_neg (by rw [bx_size]; omega), if_neg (by rw [bx_size]; omega)]
    exact hk2
  | error f =>
    rw [hx] at h1
    have hs : scan l 1 1 = .error f := by unfold lex at hx; rw [if_neg (by omega)] at hx; exact hx
    have hfe := scan_err _ l 1 1 f (Nat.le_refl _) hs
    obtain ⟨p, ⟨c, t, hc, c10, cw, c35⟩, hb, hln, hpos, hgo⟩ := scan_fault _ l 1 1 f (Nat.le_refl _) hs
    have hne : l.drop p ≠ [] := by rw [hc]; simp
    have hpl : p < l.length := by
      by_cases h : p < l.length
      · exact h
      · exact absurd (List.drop_eq_nil_of_le (by omega)) hne
    -- the fault's own text
    obtain ⟨hwn, hwt, hw32⟩ := tok_bad_ext (z := 32 :: q) hb hne (.inr ⟨32, q, rfl, .inl rfl⟩)
    have hwl : f.text.length ≤ l.length - p := by have := congrArg List.length hwt; rw [List.length_take, List.length_drop] at this; omega
    have hw0 : 0 < f.text.length := List.length_pos_iff.2 hwn
    -- where it stands
    have hfc : 1 ≤ f.col ∧ f.col ≤ 20000 := by
      have := scan_col _ l 1 1 f (Nat.le_refl _) (by omega) hs
      omega
    have hplace := place_l0 l (by omega) f.col (by omega) _ 0 (by omega) rfl f.line (by have := scan_line _ l 1 1 f (Nat.le_refl _) hs; omega)
    rw [List.drop_zero, show (((0 : Nat) : Int) + pl l (f.line - 1).toNat + f.col - 1) = (p : Int) by split at hpos <;> omega] at hplace
    have hplace' : Ev (fun k => sortilegelaw05_place.f k (bx l) f.line f.col) (p : Int) := hplace
    -- the text ahead of it
    have hA : Ev (fun k => lexer_Tokens.f k (bx (l.take p))) (out36 [] (lex (l.take p))) := tokens_f (l.take p)
    obtain ⟨preA, hpA⟩ := hgo [] (.inl rfl)
    rw [List.append_nil, scan] at hpA
    have hAe : (out36 [] (lex (l.take p))).2.1 = 0 := by
      unfold lex
      rw [if_neg (by rw [List.length_take]; omega), hpA]
      rfl
    -- the text up to it, and a blank
    have hB : Ev (fun k => lexer_Tokens.f k (bx (l.take (p + f.text.length) ++ 32 :: q))) (out36 [] (lex (l.take (p + f.text.length) ++ 32 :: q))) := tokens_f _
    have hBe : lex (l.take (p + f.text.length) ++ 32 :: q) = .error f := by
      unfold lex
      rw [if_neg (by rw [List.length_append, List.length_take, List.length_cons]; omega)]
      have htk : l.take (p + f.text.length) ++ 32 :: q = l.take p ++ (f.text ++ 32 :: q) := by
        rw [List.take_add, ← hwt, List.append_assoc]
      obtain ⟨w1', hw1'⟩ : ∃ w1', f.text = c :: w1' := by
        rw [hc] at hwt
        cases hft : f.text with
        | nil => exact absurd hft hwn
        | cons a b => rw [hft, List.length_cons, List.take_succ_cons] at hwt; injection hwt with e _; exact ⟨b, by rw [e]⟩
      obtain ⟨pre, hp⟩ := hgo (f.text ++ 32 :: q) (.inr ⟨c, w1' ++ 32 :: q, t, by rw [hw1']; rfl, hc⟩)
      rw [htk, hp]
      rw [hw1'] at hw32 ⊢
      have : scan ((c :: w1') ++ 32 :: q) f.line f.col = .error ⟨f.e, c :: w1', f.line, f.col⟩ := scan_bad c10 cw c35 hw32
      rw [this, ← hw1']
    rw [hBe] at hB
    have q1 : (0 : Int) ≤ ((p + f.text.length : Nat) : Int) := Int.natCast_nonneg _
    have q2 : ((p + f.text.length : Nat) : Int) ≤ ((bx l).size : Int) := by rw [bx_size]; omega
    have q3 : (bx (l.take (p + f.text.length))).size + 1 ≤ 9223372036854775807 := by rw [bx_size, List.length_take]; omega
    have q4 : (bx (l.take (p + f.text.length) ++ [32])).size + (bx q).size ≤ 9223372036854775807 := by rw [bx_size, bx_size, List.length_append, List.length_take, List.length_singleton]; omega
    have q5 : (0 : Int) ≤ (p : Int) := Int.natCast_nonneg p
    have q6 : (p : Int) ≤ ((bx l).size : Int) := by rw [bx_size]; omega
    have q7 : ¬ (p : Int) < 0 := by omega
    have q8 : ¬ ((p + f.text.length : Nat) : Int) > ((bx l).size : Int) := by omega
    have q9 : (p : Int) ≤ ((p + f.text.length : Nat) : Int) := by omega
    have e3 : wrap64 ((p : Int) + (f.text.length : Int)) = ((p + f.text.length : Nat) : Int) := by rw [wid (by omega) (by omega)]; omega
    have hj1 : Ev (fun k => sortilegelaw05_LexerFirst.j1 k (bx l) (bx q) (p : Int) false f.e (bx f.text) f.line f.col) true := by
      obtain ⟨K1, hA⟩ := hA
      obtain ⟨K2, hB⟩ := hB
      obtain ⟨K3, hC⟩ := awake_f
      refine ⟨K1 + K2 + K3 + 1, fun k hk => ?_⟩
      obtain ⟨k, rfl⟩ : ∃ m, k = m + 1 := ⟨k - 1, by omega⟩
      replace hA := hA k (by omega)
      replace hB := hB k (by omega)
      replace hC := hC k (by omega)
      simp only [] at hA hB hC
      show sortilegelaw05_LexerFirst.j1 (k + 1) (bx l) (bx q) (p : Int) false f.e (bx f.text) f.line f.col = _
      simp only [sortilegelaw05_LexerFirst.j1]
      have e1 : (bx l).extract 0 ((p : Int)).toNat = bx (l.take p) := by rw [ext_bx]; simp
      have e2 : (bx l).extract 0 ((((p + f.text.length : Nat) : Int))).toNat = bx (l.take (p + f.text.length)) := by rw [ext_bx, Int.toNat_natCast]; simp
      have e4 : bx (l.take (p + f.text.length)) ++ (⟨#[32]⟩ : ByteArray) = bx (l.take (p + f.text.length) ++ [32]) := bx_append _ [32]
      have e5 : bx (l.take (p + f.text.length) ++ [32]) ++ bx q = bx (l.take (p + f.text.length) ++ 32 :: q) := by rw [bx_append, List.append_assoc]; rfl
      rw [if_neg Bool.false_ne_true, if_pos q5, if_pos q6, e1, hA]
      rw [Option.bind_some]
      rw [bx_size f.text, e3, if_pos q1, if_pos q2, e2, if_pos q3, e4, if_pos q4, e5, hB]
      rw [Option.bind_some]
      rw [if_pos hAe, if_pos (by simp [out36]), hC]
      rfl
    have hj0 : Ev (fun k => sortilegelaw05_LexerFirst.j0 k (bx l) (bx q) false f.e (bx f.text) f.line f.col) true := by
      refine ev2 hplace' hj1 fun k hk hk2 => ?_
      simp only [sortilegelaw05_LexerFirst.j0]
      have e6 : ((bx l).extract ((p : Int)).toNat ((((p + f.text.length : Nat) : Int))).toNat).toList = f.text := by
        rw [ext_bx, bx_toList, Int.toNat_natCast, Int.toNat_natCast, List.drop_take, show p + f.text.length - p = f.text.length by omega, ← hwt]
      rw [if_neg (by decide), hk]
      rw [Option.bind_some]
      have e7 : ((bx f.text).toList == ([] : List UInt8)) = false := by rw [bx_toList]; exact beq_eq_false_iff_ne.2 hwn
      rw [if_neg q7, bx_size f.text, e3, if_neg q8, if_pos q5, if_pos q9, if_pos q2, e6, bx_toList, if_pos rfl]
      rw [bx_toList] at e7
      rw [e7]
      exact hk2
    refine ev2z h1 hj0 fun k hk hk2 => ?_
    unfold sortilegelaw05_LexerFirst.f
    rw [hk]
    simp only [Option.bind_some, out36]
    have e8 : (f.e == 0) = false := by simpa using hfe
    rw [if_neg (by rw [bx_size]; omega), if_neg (by rw [bx_size]; omega), e8]
    exact hk2

end Go.Proofs.Ytfcekcnghomiiaa.Pure
