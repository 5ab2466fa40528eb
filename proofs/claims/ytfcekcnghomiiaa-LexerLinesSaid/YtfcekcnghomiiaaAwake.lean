/- The fixed calls that every law of the lexer makes, walked. -/
import Derived.Test.YtfcekcnghomiiaaLexT
namespace Go.Proofs.Ytfcekcnghomiiaa
open Go.RowKit Go.Proofs.YtfcekcnghomiiaaW.PrintWords Go.Proofs.YtfcekcnghomiiaaW.PrintLast Go.Proofs.YtfcekcnghomiiaaW.PrintMore
attribute [local go_sem] max2_int min2_int max_two min_two max_three min_three max_four min_four
namespace X
open Lx

def fiveToks : List S36 := [⟨2, ⟨#[108, 101, 116]⟩, 0, 1, 1⟩, ⟨1, ⟨#[120]⟩, 0, 1, 5⟩, ⟨4, ⟨#[61]⟩, 0, 1, 6⟩, ⟨3, ⟨#[49]⟩, 1, 1, 7⟩, ⟨5, ⟨#[]⟩, 0, 1, 8⟩]

theorem fixed_one : ∃ k, lexer_Tokens.f k (⟨#[108, 101, 116, 32, 120, 61, 49]⟩ : ByteArray) = some (fiveToks, 0, (⟨#[]⟩ : ByteArray), 0, 0) := by
  have h1 := tokens_f [108, 101, 116, 32, 120, 61, 49]
  rw [lex_let] at h1
  exact h1.rounds
theorem fixed_two : ∃ k, lexer_Tokens.f k (⟨#[97, 32, 36]⟩ : ByteArray) = some (([] : List S36), 10, (⟨#[36]⟩ : ByteArray), 1, 3) := by
  have h1 := tokens_f [97, 32, 36]
  rw [lex_dollar] at h1
  exact h1.rounds
theorem fixed_three : ∃ k, lexer_Text.f k fiveToks = some (⟨#[108, 101, 116, 32, 120, 32, 61, 32, 49]⟩ : ByteArray) := by
  have hj : joined ((texts [⟨2, [108, 101, 116], 0, 1, 1⟩, ⟨1, [120], 0, 1, 5⟩, ⟨4, [61], 0, 1, 6⟩, ⟨3, [49], 1, 1, 7⟩, ⟨5, [], 0, 1, 8⟩]).map bx) (bx [32]) = bx [108, 101, 116, 32, 120, 32, 61, 32, 49] := by
    rw [joined_bx]
    rfl
  have h3 := text_f [⟨2, [108, 101, 116], 0, 1, 1⟩, ⟨1, [120], 0, 1, 5⟩, ⟨4, [61], 0, 1, 6⟩, ⟨3, [49], 1, 1, 7⟩, ⟨5, [], 0, 1, 8⟩] (by decide) (by rw [hj, bx_size]; decide)
  rw [hj] at h3
  exact h3.rounds

theorem five_at {w : World} {A : Option Addr} (h : Kd.C k36 w A 5 fiveToks) : ∃ ad : Addr, A = some ad ∧ ad.block < w.heap.size ∧ ad.spot = none := by
  obtain ⟨ad, e, h0, _⟩ := at_T36 h 0 (by omega) (by omega)
  have h0' : w.cell? ad = some (.int .i64 2) := h0
  exact ⟨ad, e, (at_spot h0').2, (at_spot h0').1⟩

theorem five_cells {w : World} {ad : Addr} (h : Kd.C k36 w (some ad) 5 fiveToks) :
    w.cell? ad = some (.int .i64 2) ∧ w.cell? ⟨ad.block, ad.off + 1, none⟩ = some (.string ⟨#[108, 101, 116]⟩) ∧ w.cell? ⟨ad.block, ad.off + 2, none⟩ = some (.int .i64 0) ∧ w.cell? ⟨ad.block, ad.off + 3, none⟩ = some (.int .i64 1) ∧ w.cell? ⟨ad.block, ad.off + 4, none⟩ = some (.int .i64 1) ∧
    w.cell? ⟨ad.block, ad.off + 10, none⟩ = some (.int .i64 4) ∧ w.cell? ⟨ad.block, ad.off + 10 + 1, none⟩ = some (.string ⟨#[61]⟩) ∧ w.cell? ⟨ad.block, ad.off + 10 + 2, none⟩ = some (.int .i64 0) ∧ w.cell? ⟨ad.block, ad.off + 10 + 3, none⟩ = some (.int .i64 1) ∧ w.cell? ⟨ad.block, ad.off + 10 + 4, none⟩ = some (.int .i64 6) ∧
    w.cell? ⟨ad.block, ad.off + 15 + 2, none⟩ = some (.int .i64 1) ∧
    w.cell? ⟨ad.block, ad.off + 20, none⟩ = some (.int .i64 5) ∧ w.cell? ⟨ad.block, ad.off + 20 + 1, none⟩ = some (.string ⟨#[]⟩) ∧ w.cell? ⟨ad.block, ad.off + 20 + 2, none⟩ = some (.int .i64 0) ∧ w.cell? ⟨ad.block, ad.off + 20 + 3, none⟩ = some (.int .i64 1) ∧ w.cell? ⟨ad.block, ad.off + 20 + 4, none⟩ = some (.int .i64 8) ∧
    ad.block < w.heap.size := by
  obtain ⟨_, e0, a0, a1, a2, a3, a4⟩ := at_T36 h 0 (by omega) (by omega)
  cases e0
  obtain ⟨_, e0, b0, b1, b2, b3, b4⟩ := at_T36 h 2 (by omega) (by omega)
  cases e0
  obtain ⟨_, e0, _, _, c2, _, _⟩ := at_T36 h 3 (by omega) (by omega)
  cases e0
  obtain ⟨_, e0, d0, d1, d2, d3, d4⟩ := at_T36 h 4 (by omega) (by omega)
  cases e0
  have a0' : w.cell? ad = some (.int .i64 2) := a0
  exact ⟨a0, a1, a2, a3, a4, b0, b1, b2, b3, b4, c2, d0, d1, d2, d3, d4, (at_spot a0').2⟩

set_option maxHeartbeats 1000000 in
set_option maxRecDepth 100000 in
theorem awake_calls (w : World) (hs_ : Sane w) : Calls Try.prog 9 #[] w fun e w' => e = .returned (.bool true) ∧ Below w.heap.size w w' := by
  obtain ⟨k1, h1⟩ := fixed_one
  obtain ⟨k2, h2⟩ := fixed_two
  obtain ⟨k3, h3⟩ := fixed_three
  have H1 := Aside0.mk h1
  have H2 := Aside0.mk h2
  have H3 := Aside0.mk h3
  clear h1 h2 h3
  have hu26 := Try.underlying26
  have hu36 := Try.underlying36
  go_enter Try.func9, Try.ntmps9
  go_wp2_with fail
  refine (lexer_Tokens.calls k1 _ fiveToks 0 (⟨#[]⟩ : ByteArray) 0 0 _ hs_ H1.out).mono ?_
  rintro e w1 ⟨v1, rfl, hR1, hb1⟩
  obtain ⟨A1, c1, e1, hc1, hC1⟩ := Kd.R_reads hR1
  have e1' : v1 = .slice A1 5 c1 := e1
  subst e1'
  obtain ⟨ad, rfl, hb0, hof0⟩ := five_at hC1
  have HC1 := Aside0.mk hC1
  have HB1 := Aside0.mk hb1
  have hs2 := (hs_.below hb1).below (below_alloc (Below.refl _ _) (.cells #[.int .i64 0, .string ⟨#[]⟩, .int .i64 0, .int .i64 0] 26 (0, 0)))
  clear hR1 hC1 hb1 e1
  go_wp2_with fail
  refine (lexer_Tokens.calls k2 _ ([] : List S36) 10 (⟨#[36]⟩ : ByteArray) 1 3 _ hs2 H2.out).mono ?_
  rintro e w2 ⟨v2, rfl, hR2, hb2⟩
  obtain ⟨A2, c2, e2, hc2, hC2⟩ := Kd.R_reads hR2
  have e2' : v2 = .slice A2 0 c2 := e2
  subst e2'
  have hz2 : w1.heap.size < w2.heap.size := by have := hb2.size; simp at this; omega
  have hc_ : ∀ j, w2.cell? ⟨w1.heap.size, j, none⟩ = (w1.alloc (.cells #[.int .i64 0, .string ⟨#[]⟩, .int .i64 0, .int .i64 0] 26 (0, 0))).cell? ⟨w1.heap.size, j, none⟩ := fun j => hb2.cell (p := ⟨w1.heap.size, j, none⟩) (by simp)
  have g0 : w2.cell? ⟨w1.heap.size, 0, none⟩ = some (.int .i64 0) := (hc_ 0).trans (by simp)
  have g1 : w2.cell? ⟨w1.heap.size, 1, none⟩ = some (.string ⟨#[]⟩) := (hc_ 1).trans (by simp)
  have g2 : w2.cell? ⟨w1.heap.size, 2, none⟩ = some (.int .i64 0) := (hc_ 2).trans (by simp)
  have g3 : w2.cell? ⟨w1.heap.size, 3, none⟩ = some (.int .i64 0) := (hc_ 3).trans (by simp)
  have HC2 := Aside0.mk (Kd.C_below (Kd.C_alloc HC1.out (.cells #[.int .i64 0, .string ⟨#[]⟩, .int .i64 0, .int .i64 0] 26 (0, 0))) hb2)
  have HB2 := Aside0.mk (below_then (below_alloc HB1.out (.cells #[.int .i64 0, .string ⟨#[]⟩, .int .i64 0, .int .i64 0] 26 (0, 0))) (by have := HB1.out.size; simp; omega) hb2)
  obtain ⟨f00, f01, f02, f03, f04, f20, f21, f22, f23, f24, f32, f40, f41, f42, f43, f44, hbk⟩ := five_cells HC2.out
  clear hR2 hC2 hb2 e2 hc_ HB1 HC1 hb0 hof0
  go_wp2_with fail
  refine (lexer_Text.calls k3 (some ad) c1 fiveToks _ _ (Kd.C_alloc HC2.out _) hc1 H3.out).mono ?_
  rintro e w3 ⟨rfl, hb3⟩
  have HB3 := Aside0.mk (below_then (below_alloc HB2.out (.cells #[.int .i64 10, .string ⟨#[36]⟩, .int .i64 1, .int .i64 3] 26 (0, 0))) (by have := HB2.out.size; simp; omega) hb3)
  clear hb3
  go_wp2
  go_ret
  exact ⟨by first | rfl | (simp; done), HB3.out⟩
end X
end Go.Proofs.Ytfcekcnghomiiaa
