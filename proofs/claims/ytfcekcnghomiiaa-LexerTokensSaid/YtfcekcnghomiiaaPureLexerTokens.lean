/- LexerTokens: for every string the lexer's tokens and its fault are those of the reference; no condition. -/
import Derived.Test.YtfcekcnghomiiaaLexE
import Derived.Test.YtfcekcnghomiiaaX18
import Derived.Test.YtfcekcnghomiiaaLexF
namespace Go.Proofs.Ytfcekcnghomiiaa.Pure
open Go.RowKit Go.Proofs.Ytfcekcnghomiiaa Go.Proofs.Ytfcekcnghomiiaa.X Go.Proofs.Ytfcekcnghomiiaa.Lx Go.Proofs.YtfcekcnghomiiaaW.PrintWords Go.Proofs.YtfcekcnghomiiaaW.PrintLast

theorem LexerTokens : sortilegelaw05_LexerTokens.Pure := by
  intro s _
  obtain ⟨l, rfl⟩ : ∃ l, s = bx l := ⟨_, (bx_self s).symm⟩
  apply Ev.rounds
  by_cases h : 21000 < l.length
  · refine ev1z awake_f fun k hk => ?_
    unfold sortilegelaw05_LexerTokens.f
    rw [if_pos (by rw [bx_size]; omega), hk]
    rfl
  · have h1 := tokens_f l
    have h2 := rtokens_f l
    have key : ∃ ts : List Tok, ts.length ≤ 30000 ∧ ∃ e w a b, out36 [] (lex l) = (ts.map t36, e, bx w, a, b) ∧ out35 [] (lex l) = (ts.map t35, e, bx w, a, b) := by
      cases hl : lex l with
      | error f => exact ⟨[], by simp, f.e, f.text, f.line, f.col, rfl, rfl⟩
      | ok ts =>
        refine ⟨ts, ?_, 0, [], 0, 0, rfl, rfl⟩
        unfold lex at hl
        by_cases h3 : 20000 < l.length
        · rw [if_pos h3] at hl; cases hl
        · rw [if_neg h3] at hl
          have := scan_len _ l 1 1 ts (Nat.le_refl _) hl
          omega
    obtain ⟨ts, hts, e, w, a, b, e1, e2⟩ := key
    rw [e1] at h1
    rw [e2] at h2
    have h3 := alike_f ts (by omega)
    obtain ⟨K1, h1⟩ := h1
    obtain ⟨K2, h2⟩ := h2
    obtain ⟨K3, h3⟩ := h3
    obtain ⟨K4, h4⟩ := awake_f
    refine ⟨K1 + K2 + K3 + K4, fun k hk => ?_⟩
    replace h1 := h1 k (by omega)
    replace h2 := h2 k (by omega)
    replace h3 := h3 k (by omega)
    replace h4 := h4 k (by omega)
    simp only [] at h1 h2 h3 h4
    show sortilegelaw05_LexerTokens.f k (bx l) = _
    unfold sortilegelaw05_LexerTokens.f
    rw [if_neg (by rw [bx_size]; omega), h1]
    simp only [Option.bind_some]
    rw [h2]
    simp only [Option.bind_some]
    rw [h3]
    simp only [Option.bind_some]
    rw [if_pos trivial, if_pos (by simp), h4]
    rfl

end Go.Proofs.Ytfcekcnghomiiaa.Pure
