-- Printed by xprint.py of this session (the kit's printer with contracts given by hand), then shortened and mended by hand (fix27.py, join27.py). Lean checks it.
import Derived.Test.YtfcekcnghomiiaaX0
import Derived.Test.YtfcekcnghomiiaaX1
import Derived.Test.YtfcekcnghomiiaaX2
import Derived.Test.YtfcekcnghomiiaaX7
import Derived.Test.YtfcekcnghomiiaaX10
import Derived.Test.YtfcekcnghomiiaaX26
namespace Go.Proofs.Ytfcekcnghomiiaa.X
open Go.RowKit Go.Proofs.YtfcekcnghomiiaaW.PrintWords Go.Proofs.YtfcekcnghomiiaaW.PrintLast Go.Proofs.YtfcekcnghomiiaaW.PrintMore
attribute [local go_sem] max2_int min2_int max_two min_two max_three min_three max_four min_four   -- for this text's walks alone
set_option linter.unusedVariables false
set_option linter.unusedSimpArgs false

attribute [local go_sem high] eqA26 eqA36
/-! ### sortilegelaw05_LexerLines: function 6 -/
mutual
def sortilegelaw05_LexerLines.j0 : Nat → ByteArray → ByteArray → Bool → Option (Bool)
 | 0, _, _, _ => none
 | k + 1, x0, x1, x21 => if x21 = true then ((sortilegelaw05_awake.f k).bind fun t273 => (some t273)) else (sortilegelaw05_LexerLines.j1 k x0 x1)
def sortilegelaw05_LexerLines.j1 : Nat → ByteArray → ByteArray → Option (Bool)
 | 0, _, _ => none
 | k + 1, x0, x1 => if x0.size + 1 ≤ 9223372036854775807 then ((lexer_Tokens.f k (x0 ++ (⟨#[10]⟩ : ByteArray))).bind fun bt274 => ((lexer_Tokens.f k x1).bind fun bt282 => (if (x0 ++ (⟨#[10]⟩ : ByteArray)).size + x1.size ≤ 9223372036854775807 then ((lexer_Tokens.f k ((x0 ++ (⟨#[10]⟩ : ByteArray)) ++ x1)).bind fun bt290 => (if bt274.2.1 = 0 then (sortilegelaw05_LexerLines.j2 k (x0 ++ (⟨#[10]⟩ : ByteArray)) bt274.1 bt282.1 bt290.1 bt282.2.1 bt282.2.2.1 bt282.2.2.2.1 bt282.2.2.2.2 bt290.2.1 bt290.2.2.1 bt290.2.2.2.1 bt290.2.2.2.2) else (if (bt290.2.1 == bt274.2.1 && (bt290.2.2.1.toList == bt274.2.2.1.toList && (bt290.2.2.2.1 == bt274.2.2.2.1 && (bt290.2.2.2.2 == bt274.2.2.2.2)))) = true then (if (bt290.1.length : Int) = 0 then ((sortilegelaw05_awake.f k).bind fun t298 => (some t298)) else (some false)) else (some false)))) else (none)))) else (none)
def sortilegelaw05_LexerLines.j2 : Nat → ByteArray → List (S36) → List (S36) → List (S36) → Int → ByteArray → Int → Int → Int → ByteArray → Int → Int → Option (Bool)
 | 0, _, _, _, _, _, _, _, _, _, _, _, _ => none
 | k + 1, x0, x5, x7, x9, x290000, x290001, x290002, x290003, x298000, x298001, x298002, x298003 => (sortilegelaw05_lines.f k x0).bind fun t299 => (if x290000 = 0 then (sortilegelaw05_LexerLines.j3 k x5 x7 x9 t299 x298000 x298001 x298002 x298003) else (if (x298000 == x290000 && (x298001.toList == x290001.toList && (x298002 == (wrap64 (x290002 + t299)) && (x298003 == x290003)))) = true then (if (x9.length : Int) = 0 then ((sortilegelaw05_awake.f k).bind fun t300 => (some t300)) else (some false)) else (some false)))
def sortilegelaw05_LexerLines.j3 : Nat → List (S36) → List (S36) → List (S36) → Int → Int → ByteArray → Int → Int → Option (Bool)
 | 0, _, _, _, _, _, _, _, _ => none
 | k + 1, x5, x7, x9, x11, x298000, x298001, x298002, x298003 => if x298000 = 0 then (sortilegelaw05_LexerLines.j4 k x5 x7 x9 x11 ((x9.length : Int) != (wrap64 ((wrap64 ((x5.length : Int) - 1)) + (x7.length : Int))))) else (sortilegelaw05_LexerLines.j4 k x5 x7 x9 x11 true)
def sortilegelaw05_LexerLines.j4 : Nat → List (S36) → List (S36) → List (S36) → Int → Bool → Option (Bool)
 | 0, _, _, _, _, _ => none
 | k + 1, x5, x7, x9, x11, x90 => if x90 = true then (some false) else (sortilegelaw05_LexerLines.j5 k x5 x7 x9 x11)
def sortilegelaw05_LexerLines.j5 : Nat → List (S36) → List (S36) → List (S36) → Int → Option (Bool)
 | 0, _, _, _, _ => none
 | k + 1, x5, x7, x9, x11 => sortilegelaw05_LexerLines.l0 k x5 x7 x9 x11 0
def sortilegelaw05_LexerLines.j10 : Nat → Option (Bool)
 | 0 => none
 | k + 1 => (sortilegelaw05_awake.f k).bind fun t306 => (some t306)
def sortilegelaw05_LexerLines.l0 : Nat → List (S36) → List (S36) → List (S36) → Int → Int → Option (Bool)
 | 0, _, _, _, _, _ => none
 | k + 1, x5, x7, x9, x11, x12 => if x12 < (x9.length : Int) then (sortilegelaw05_LexerLines.j7 k x5 x7 x9 x11 x12) else (sortilegelaw05_LexerLines.j10 k)
def sortilegelaw05_LexerLines.j7 : Nat → List (S36) → List (S36) → List (S36) → Int → Int → Option (Bool)
 | 0, _, _, _, _, _ => none
 | k + 1, x5, x7, x9, x11, x12 => if x12 < (wrap64 ((x5.length : Int) - 1)) then (if 0 ≤ x12 then (if x12 < (x9.length : Int) then (if x12 < (x5.length : Int) then (sortilegelaw05_LexerLines.j8 k x5 x7 x9 x11 x12 (!(((rd_T36 x9 x12).f0) == ((rd_T36 x5 x12).f0)) || (!((((rd_T36 x9 x12).f1).toList) == (((rd_T36 x5 x12).f1).toList)) || (!(((rd_T36 x9 x12).f2) == ((rd_T36 x5 x12).f2)) || (!(((rd_T36 x9 x12).f3) == ((rd_T36 x5 x12).f3)) || (!(((rd_T36 x9 x12).f4) == ((rd_T36 x5 x12).f4)))))))) else (none)) else (none)) else (none)) else (sortilegelaw05_LexerLines.j8 k x5 x7 x9 x11 x12 false)
def sortilegelaw05_LexerLines.j8 : Nat → List (S36) → List (S36) → List (S36) → Int → Int → Bool → Option (Bool)
 | 0, _, _, _, _, _, _ => none
 | k + 1, x5, x7, x9, x11, x12, x112 => if x112 = true then (some false) else (sortilegelaw05_LexerLines.j9 k x5 x7 x9 x11 x12)
def sortilegelaw05_LexerLines.j9 : Nat → List (S36) → List (S36) → List (S36) → Int → Int → Option (Bool)
 | 0, _, _, _, _, _ => none
 | k + 1, x5, x7, x9, x11, x12 => if x12 ≥ (wrap64 ((x5.length : Int) - 1)) then (if 0 ≤ (wrap64 ((wrap64 (x12 - (x5.length : Int))) + 1)) then (if (wrap64 ((wrap64 (x12 - (x5.length : Int))) + 1)) < (x7.length : Int) then (if 0 ≤ x12 then (if x12 < (x9.length : Int) then (if (!(((rd_T36 x9 x12).f0) == ((rd_T36 x7 (wrap64 ((wrap64 (x12 - (x5.length : Int))) + 1))).f0)) || (!((((rd_T36 x9 x12).f1).toList) == (((rd_T36 x7 (wrap64 ((wrap64 (x12 - (x5.length : Int))) + 1))).f1).toList)) || (!(((rd_T36 x9 x12).f2) == ((rd_T36 x7 (wrap64 ((wrap64 (x12 - (x5.length : Int))) + 1))).f2)) || (!(((rd_T36 x9 x12).f3) == (wrap64 (((rd_T36 x7 (wrap64 ((wrap64 (x12 - (x5.length : Int))) + 1))).f3) + x11))) || (!(((rd_T36 x9 x12).f4) == ((rd_T36 x7 (wrap64 ((wrap64 (x12 - (x5.length : Int))) + 1))).f4))))))) = true then (some false) else (sortilegelaw05_LexerLines.l0 k x5 x7 x9 x11 (wrap64 (x12 + 1)))) else (none)) else (none)) else (none)) else (none)) else (sortilegelaw05_LexerLines.l0 k x5 x7 x9 x11 (wrap64 (x12 + 1)))
end
def sortilegelaw05_LexerLines.f (k : Nat) (a0 : ByteArray) (a1 : ByteArray) : Option (Bool) := if (a0.size : Int) > 9000 then (sortilegelaw05_LexerLines.j0 k a0 a1 true) else (sortilegelaw05_LexerLines.j0 k a0 a1 (decide ((a1.size : Int) > 9000)))
theorem sortilegelaw05_LexerLines.mono_l : ∀ k, (∀ y0 y1 y2, LeO (sortilegelaw05_LexerLines.j0 k y0 y1 y2) (sortilegelaw05_LexerLines.j0 (k + 1) y0 y1 y2)) ∧ (∀ y0 y1, LeO (sortilegelaw05_LexerLines.j1 k y0 y1) (sortilegelaw05_LexerLines.j1 (k + 1) y0 y1)) ∧ (∀ y0 y1 y2 y3 y4 y5 y6 y7 y8 y9 y10 y11, LeO (sortilegelaw05_LexerLines.j2 k y0 y1 y2 y3 y4 y5 y6 y7 y8 y9 y10 y11) (sortilegelaw05_LexerLines.j2 (k + 1) y0 y1 y2 y3 y4 y5 y6 y7 y8 y9 y10 y11)) ∧ (∀ y0 y1 y2 y3 y4 y5 y6 y7, LeO (sortilegelaw05_LexerLines.j3 k y0 y1 y2 y3 y4 y5 y6 y7) (sortilegelaw05_LexerLines.j3 (k + 1) y0 y1 y2 y3 y4 y5 y6 y7)) ∧ (∀ y0 y1 y2 y3 y4, LeO (sortilegelaw05_LexerLines.j4 k y0 y1 y2 y3 y4) (sortilegelaw05_LexerLines.j4 (k + 1) y0 y1 y2 y3 y4)) ∧ (∀ y0 y1 y2 y3, LeO (sortilegelaw05_LexerLines.j5 k y0 y1 y2 y3) (sortilegelaw05_LexerLines.j5 (k + 1) y0 y1 y2 y3)) ∧ (LeO (sortilegelaw05_LexerLines.j10 k ) (sortilegelaw05_LexerLines.j10 (k + 1) )) ∧ (∀ y0 y1 y2 y3 y4, LeO (sortilegelaw05_LexerLines.l0 k y0 y1 y2 y3 y4) (sortilegelaw05_LexerLines.l0 (k + 1) y0 y1 y2 y3 y4)) ∧ (∀ y0 y1 y2 y3 y4, LeO (sortilegelaw05_LexerLines.j7 k y0 y1 y2 y3 y4) (sortilegelaw05_LexerLines.j7 (k + 1) y0 y1 y2 y3 y4)) ∧ (∀ y0 y1 y2 y3 y4 y5, LeO (sortilegelaw05_LexerLines.j8 k y0 y1 y2 y3 y4 y5) (sortilegelaw05_LexerLines.j8 (k + 1) y0 y1 y2 y3 y4 y5)) ∧ (∀ y0 y1 y2 y3 y4, LeO (sortilegelaw05_LexerLines.j9 k y0 y1 y2 y3 y4) (sortilegelaw05_LexerLines.j9 (k + 1) y0 y1 y2 y3 y4))
 | 0 => ⟨fun _ _ _ r h => by simp [sortilegelaw05_LexerLines.j0] at h, fun _ _ r h => by simp [sortilegelaw05_LexerLines.j1] at h, fun _ _ _ _ _ _ _ _ _ _ _ _ r h => by simp [sortilegelaw05_LexerLines.j2] at h, fun _ _ _ _ _ _ _ _ r h => by simp [sortilegelaw05_LexerLines.j3] at h, fun _ _ _ _ _ r h => by simp [sortilegelaw05_LexerLines.j4] at h, fun _ _ _ _ r h => by simp [sortilegelaw05_LexerLines.j5] at h, fun r h => by simp [sortilegelaw05_LexerLines.j10] at h, fun _ _ _ _ _ r h => by simp [sortilegelaw05_LexerLines.l0] at h, fun _ _ _ _ _ r h => by simp [sortilegelaw05_LexerLines.j7] at h, fun _ _ _ _ _ _ r h => by simp [sortilegelaw05_LexerLines.j8] at h, fun _ _ _ _ _ r h => by simp [sortilegelaw05_LexerLines.j9] at h⟩
 | k + 1 => by
  obtain ⟨ih0, ih1, ih2, ih3, ih4, ih5, ih6, ih7, ih8, ih9, ih10⟩ := sortilegelaw05_LexerLines.mono_l k
  refine ⟨?_, ?_, ?_, ?_, ?_, ?_, ?_, ?_, ?_, ?_, ?_⟩
  ·intro y0 y1 y2
   unfold sortilegelaw05_LexerLines.j0
   repeat' first
   | (with_reducible exact ih0 _ _ _)
   | (with_reducible exact ih1 _ _)
   | (with_reducible exact ih2 _ _ _ _ _ _ _ _ _ _ _ _)
   | (with_reducible exact ih3 _ _ _ _ _ _ _ _)
   | (with_reducible exact ih4 _ _ _ _ _)
   | (with_reducible exact ih5 _ _ _ _)
   | (with_reducible exact ih6)
   | (with_reducible exact ih7 _ _ _ _ _)
   | (with_reducible exact ih8 _ _ _ _ _)
   | (with_reducible exact ih9 _ _ _ _ _ _)
   | (with_reducible exact ih10 _ _ _ _ _)
   | (with_reducible exact lexer_Tokens.mono _ _)
   | (with_reducible exact sortilegelaw05_awake.mono _)
   | (with_reducible exact sortilegelaw05_lines.mono _ _)
   | (with_reducible exact LeO.refl _)
   | (with_reducible exact LeO.none _)
   | (with_reducible refine LeO.ite ?_ ?_)
   | (with_reducible refine LeO.bind ?_ (fun _ => ?_))
   | exact ih0 _ _ _
   | exact ih1 _ _
   | exact ih2 _ _ _ _ _ _ _ _ _ _ _ _
   | exact ih3 _ _ _ _ _ _ _ _
   | exact ih4 _ _ _ _ _
   | exact ih5 _ _ _ _
   | exact ih6
   | exact ih7 _ _ _ _ _
   | exact ih8 _ _ _ _ _
   | exact ih9 _ _ _ _ _ _
   | exact ih10 _ _ _ _ _
   | exact lexer_Tokens.mono _ _
   | exact sortilegelaw05_awake.mono _
   | exact sortilegelaw05_lines.mono _ _
   | exact LeO.none _
   | refine LeO.ite ?_ ?_
   | refine LeO.bind ?_ (fun _ => ?_)
  ·intro y0 y1
   unfold sortilegelaw05_LexerLines.j1
   repeat' first
   | (with_reducible exact ih0 _ _ _)
   | (with_reducible exact ih1 _ _)
   | (with_reducible exact ih2 _ _ _ _ _ _ _ _ _ _ _ _)
   | (with_reducible exact ih3 _ _ _ _ _ _ _ _)
   | (with_reducible exact ih4 _ _ _ _ _)
   | (with_reducible exact ih5 _ _ _ _)
   | (with_reducible exact ih6)
   | (with_reducible exact ih7 _ _ _ _ _)
   | (with_reducible exact ih8 _ _ _ _ _)
   | (with_reducible exact ih9 _ _ _ _ _ _)
   | (with_reducible exact ih10 _ _ _ _ _)
   | (with_reducible exact lexer_Tokens.mono _ _)
   | (with_reducible exact sortilegelaw05_awake.mono _)
   | (with_reducible exact sortilegelaw05_lines.mono _ _)
   | (with_reducible exact LeO.refl _)
   | (with_reducible exact LeO.none _)
   | (with_reducible refine LeO.ite ?_ ?_)
   | (with_reducible refine LeO.bind ?_ (fun _ => ?_))
   | exact ih0 _ _ _
   | exact ih1 _ _
   | exact ih2 _ _ _ _ _ _ _ _ _ _ _ _
   | exact ih3 _ _ _ _ _ _ _ _
   | exact ih4 _ _ _ _ _
   | exact ih5 _ _ _ _
   | exact ih6
   | exact ih7 _ _ _ _ _
   | exact ih8 _ _ _ _ _
   | exact ih9 _ _ _ _ _ _
   | exact ih10 _ _ _ _ _
   | exact lexer_Tokens.mono _ _
   | exact sortilegelaw05_awake.mono _
   | exact sortilegelaw05_lines.mono _ _
   | exact LeO.none _
   | refine LeO.ite ?_ ?_
   | refine LeO.bind ?_ (fun _ => ?_)
  ·intro y0 y1 y2 y3 y4 y5 y6 y7 y8 y9 y10 y11
   unfold sortilegelaw05_LexerLines.j2
   repeat' first
   | (with_reducible exact ih0 _ _ _)
   | (with_reducible exact ih1 _ _)
   | (with_reducible exact ih2 _ _ _ _ _ _ _ _ _ _ _ _)
   | (with_reducible exact ih3 _ _ _ _ _ _ _ _)
   | (with_reducible exact ih4 _ _ _ _ _)
   | (with_reducible exact ih5 _ _ _ _)
   | (with_reducible exact ih6)
   | (with_reducible exact ih7 _ _ _ _ _)
   | (with_reducible exact ih8 _ _ _ _ _)
   | (with_reducible exact ih9 _ _ _ _ _ _)
   | (with_reducible exact ih10 _ _ _ _ _)
   | (with_reducible exact lexer_Tokens.mono _ _)
   | (with_reducible exact sortilegelaw05_awake.mono _)
   | (with_reducible exact sortilegelaw05_lines.mono _ _)
   | (with_reducible exact LeO.refl _)
   | (with_reducible exact LeO.none _)
   | (with_reducible refine LeO.ite ?_ ?_)
   | (with_reducible refine LeO.bind ?_ (fun _ => ?_))
   | exact ih0 _ _ _
   | exact ih1 _ _
   | exact ih2 _ _ _ _ _ _ _ _ _ _ _ _
   | exact ih3 _ _ _ _ _ _ _ _
   | exact ih4 _ _ _ _ _
   | exact ih5 _ _ _ _
   | exact ih6
   | exact ih7 _ _ _ _ _
   | exact ih8 _ _ _ _ _
   | exact ih9 _ _ _ _ _ _
   | exact ih10 _ _ _ _ _
   | exact lexer_Tokens.mono _ _
   | exact sortilegelaw05_awake.mono _
   | exact sortilegelaw05_lines.mono _ _
   | exact LeO.none _
   | refine LeO.ite ?_ ?_
   | refine LeO.bind ?_ (fun _ => ?_)
  ·intro y0 y1 y2 y3 y4 y5 y6 y7
   unfold sortilegelaw05_LexerLines.j3
   repeat' first
   | (with_reducible exact ih0 _ _ _)
   | (with_reducible exact ih1 _ _)
   | (with_reducible exact ih2 _ _ _ _ _ _ _ _ _ _ _ _)
   | (with_reducible exact ih3 _ _ _ _ _ _ _ _)
   | (with_reducible exact ih4 _ _ _ _ _)
   | (with_reducible exact ih5 _ _ _ _)
   | (with_reducible exact ih6)
   | (with_reducible exact ih7 _ _ _ _ _)
   | (with_reducible exact ih8 _ _ _ _ _)
   | (with_reducible exact ih9 _ _ _ _ _ _)
   | (with_reducible exact ih10 _ _ _ _ _)
   | (with_reducible exact lexer_Tokens.mono _ _)
   | (with_reducible exact sortilegelaw05_awake.mono _)
   | (with_reducible exact sortilegelaw05_lines.mono _ _)
   | (with_reducible exact LeO.refl _)
   | (with_reducible exact LeO.none _)
   | (with_reducible refine LeO.ite ?_ ?_)
   | (with_reducible refine LeO.bind ?_ (fun _ => ?_))
   | exact ih0 _ _ _
   | exact ih1 _ _
   | exact ih2 _ _ _ _ _ _ _ _ _ _ _ _
   | exact ih3 _ _ _ _ _ _ _ _
   | exact ih4 _ _ _ _ _
   | exact ih5 _ _ _ _
   | exact ih6
   | exact ih7 _ _ _ _ _
   | exact ih8 _ _ _ _ _
   | exact ih9 _ _ _ _ _ _
   | exact ih10 _ _ _ _ _
   | exact lexer_Tokens.mono _ _
   | exact sortilegelaw05_awake.mono _
   | exact sortilegelaw05_lines.mono _ _
   | exact LeO.none _
   | refine LeO.ite ?_ ?_
   | refine LeO.bind ?_ (fun _ => ?_)
  ·intro y0 y1 y2 y3 y4
   unfold sortilegelaw05_LexerLines.j4
   repeat' first
   | (with_reducible exact ih0 _ _ _)
   | (with_reducible exact ih1 _ _)
   | (with_reducible exact ih2 _ _ _ _ _ _ _ _ _ _ _ _)
   | (with_reducible exact ih3 _ _ _ _ _ _ _ _)
   | (with_reducible exact ih4 _ _ _ _ _)
   | (with_reducible exact ih5 _ _ _ _)
   | (with_reducible exact ih6)
   | (with_reducible exact ih7 _ _ _ _ _)
   | (with_reducible exact ih8 _ _ _ _ _)
   | (with_reducible exact ih9 _ _ _ _ _ _)
   | (with_reducible exact ih10 _ _ _ _ _)
   | (with_reducible exact lexer_Tokens.mono _ _)
   | (with_reducible exact sortilegelaw05_awake.mono _)
   | (with_reducible exact sortilegelaw05_lines.mono _ _)
   | (with_reducible exact LeO.refl _)
   | (with_reducible exact LeO.none _)
   | (with_reducible refine LeO.ite ?_ ?_)
   | (with_reducible refine LeO.bind ?_ (fun _ => ?_))
   | exact ih0 _ _ _
   | exact ih1 _ _
   | exact ih2 _ _ _ _ _ _ _ _ _ _ _ _
   | exact ih3 _ _ _ _ _ _ _ _
   | exact ih4 _ _ _ _ _
   | exact ih5 _ _ _ _
   | exact ih6
   | exact ih7 _ _ _ _ _
   | exact ih8 _ _ _ _ _
   | exact ih9 _ _ _ _ _ _
   | exact ih10 _ _ _ _ _
   | exact lexer_Tokens.mono _ _
   | exact sortilegelaw05_awake.mono _
   | exact sortilegelaw05_lines.mono _ _
   | exact LeO.none _
   | refine LeO.ite ?_ ?_
   | refine LeO.bind ?_ (fun _ => ?_)
  ·intro y0 y1 y2 y3
   unfold sortilegelaw05_LexerLines.j5
   repeat' first
   | (with_reducible exact ih0 _ _ _)
   | (with_reducible exact ih1 _ _)
   | (with_reducible exact ih2 _ _ _ _ _ _ _ _ _ _ _ _)
   | (with_reducible exact ih3 _ _ _ _ _ _ _ _)
   | (with_reducible exact ih4 _ _ _ _ _)
   | (with_reducible exact ih5 _ _ _ _)
   | (with_reducible exact ih6)
   | (with_reducible exact ih7 _ _ _ _ _)
   | (with_reducible exact ih8 _ _ _ _ _)
   | (with_reducible exact ih9 _ _ _ _ _ _)
   | (with_reducible exact ih10 _ _ _ _ _)
   | (with_reducible exact lexer_Tokens.mono _ _)
   | (with_reducible exact sortilegelaw05_awake.mono _)
   | (with_reducible exact sortilegelaw05_lines.mono _ _)
   | (with_reducible exact LeO.refl _)
   | (with_reducible exact LeO.none _)
   | (with_reducible refine LeO.ite ?_ ?_)
   | (with_reducible refine LeO.bind ?_ (fun _ => ?_))
   | exact ih0 _ _ _
   | exact ih1 _ _
   | exact ih2 _ _ _ _ _ _ _ _ _ _ _ _
   | exact ih3 _ _ _ _ _ _ _ _
   | exact ih4 _ _ _ _ _
   | exact ih5 _ _ _ _
   | exact ih6
   | exact ih7 _ _ _ _ _
   | exact ih8 _ _ _ _ _
   | exact ih9 _ _ _ _ _ _
   | exact ih10 _ _ _ _ _
   | exact lexer_Tokens.mono _ _
   | exact sortilegelaw05_awake.mono _
   | exact sortilegelaw05_lines.mono _ _
   | exact LeO.none _
   | refine LeO.ite ?_ ?_
   | refine LeO.bind ?_ (fun _ => ?_)
  ·skip
   unfold sortilegelaw05_LexerLines.j10
   repeat' first
   | (with_reducible exact ih0 _ _ _)
   | (with_reducible exact ih1 _ _)
   | (with_reducible exact ih2 _ _ _ _ _ _ _ _ _ _ _ _)
   | (with_reducible exact ih3 _ _ _ _ _ _ _ _)
   | (with_reducible exact ih4 _ _ _ _ _)
   | (with_reducible exact ih5 _ _ _ _)
   | (with_reducible exact ih6)
   | (with_reducible exact ih7 _ _ _ _ _)
   | (with_reducible exact ih8 _ _ _ _ _)
   | (with_reducible exact ih9 _ _ _ _ _ _)
   | (with_reducible exact ih10 _ _ _ _ _)
   | (with_reducible exact lexer_Tokens.mono _ _)
   | (with_reducible exact sortilegelaw05_awake.mono _)
   | (with_reducible exact sortilegelaw05_lines.mono _ _)
   | (with_reducible exact LeO.refl _)
   | (with_reducible exact LeO.none _)
   | (with_reducible refine LeO.ite ?_ ?_)
   | (with_reducible refine LeO.bind ?_ (fun _ => ?_))
   | exact ih0 _ _ _
   | exact ih1 _ _
   | exact ih2 _ _ _ _ _ _ _ _ _ _ _ _
   | exact ih3 _ _ _ _ _ _ _ _
   | exact ih4 _ _ _ _ _
   | exact ih5 _ _ _ _
   | exact ih6
   | exact ih7 _ _ _ _ _
   | exact ih8 _ _ _ _ _
   | exact ih9 _ _ _ _ _ _
   | exact ih10 _ _ _ _ _
   | exact lexer_Tokens.mono _ _
   | exact sortilegelaw05_awake.mono _
   | exact sortilegelaw05_lines.mono _ _
   | exact LeO.none _
   | refine LeO.ite ?_ ?_
   | refine LeO.bind ?_ (fun _ => ?_)
  ·intro y0 y1 y2 y3 y4
   unfold sortilegelaw05_LexerLines.l0
   repeat' first
   | (with_reducible exact ih0 _ _ _)
   | (with_reducible exact ih1 _ _)
   | (with_reducible exact ih2 _ _ _ _ _ _ _ _ _ _ _ _)
   | (with_reducible exact ih3 _ _ _ _ _ _ _ _)
   | (with_reducible exact ih4 _ _ _ _ _)
   | (with_reducible exact ih5 _ _ _ _)
   | (with_reducible exact ih6)
   | (with_reducible exact ih7 _ _ _ _ _)
   | (with_reducible exact ih8 _ _ _ _ _)
   | (with_reducible exact ih9 _ _ _ _ _ _)
   | (with_reducible exact ih10 _ _ _ _ _)
   | (with_reducible exact lexer_Tokens.mono _ _)
   | (with_reducible exact sortilegelaw05_awake.mono _)
   | (with_reducible exact sortilegelaw05_lines.mono _ _)
   | (with_reducible exact LeO.refl _)
   | (with_reducible exact LeO.none _)
   | (with_reducible refine LeO.ite ?_ ?_)
   | (with_reducible refine LeO.bind ?_ (fun _ => ?_))
   | exact ih0 _ _ _
   | exact ih1 _ _
   | exact ih2 _ _ _ _ _ _ _ _ _ _ _ _
   | exact ih3 _ _ _ _ _ _ _ _
   | exact ih4 _ _ _ _ _
   | exact ih5 _ _ _ _
   | exact ih6
   | exact ih7 _ _ _ _ _
   | exact ih8 _ _ _ _ _
   | exact ih9 _ _ _ _ _ _
   | exact ih10 _ _ _ _ _
   | exact lexer_Tokens.mono _ _
   | exact sortilegelaw05_awake.mono _
   | exact sortilegelaw05_lines.mono _ _
   | exact LeO.none _
   | refine LeO.ite ?_ ?_
   | refine LeO.bind ?_ (fun _ => ?_)
  ·intro y0 y1 y2 y3 y4
   unfold sortilegelaw05_LexerLines.j7
   repeat' first
   | (with_reducible exact ih0 _ _ _)
   | (with_reducible exact ih1 _ _)
   | (with_reducible exact ih2 _ _ _ _ _ _ _ _ _ _ _ _)
   | (with_reducible exact ih3 _ _ _ _ _ _ _ _)
   | (with_reducible exact ih4 _ _ _ _ _)
   | (with_reducible exact ih5 _ _ _ _)
   | (with_reducible exact ih6)
   | (with_reducible exact ih7 _ _ _ _ _)
   | (with_reducible exact ih8 _ _ _ _ _)
   | (with_reducible exact ih9 _ _ _ _ _ _)
   | (with_reducible exact ih10 _ _ _ _ _)
   | (with_reducible exact lexer_Tokens.mono _ _)
   | (with_reducible exact sortilegelaw05_awake.mono _)
   | (with_reducible exact sortilegelaw05_lines.mono _ _)
   | (with_reducible exact LeO.refl _)
   | (with_reducible exact LeO.none _)
   | (with_reducible refine LeO.ite ?_ ?_)
   | (with_reducible refine LeO.bind ?_ (fun _ => ?_))
   | exact ih0 _ _ _
   | exact ih1 _ _
   | exact ih2 _ _ _ _ _ _ _ _ _ _ _ _
   | exact ih3 _ _ _ _ _ _ _ _
   | exact ih4 _ _ _ _ _
   | exact ih5 _ _ _ _
   | exact ih6
   | exact ih7 _ _ _ _ _
   | exact ih8 _ _ _ _ _
   | exact ih9 _ _ _ _ _ _
   | exact ih10 _ _ _ _ _
   | exact lexer_Tokens.mono _ _
   | exact sortilegelaw05_awake.mono _
   | exact sortilegelaw05_lines.mono _ _
   | exact LeO.none _
   | refine LeO.ite ?_ ?_
   | refine LeO.bind ?_ (fun _ => ?_)
  ·intro y0 y1 y2 y3 y4 y5
   unfold sortilegelaw05_LexerLines.j8
   repeat' first
   | (with_reducible exact ih0 _ _ _)
   | (with_reducible exact ih1 _ _)
   | (with_reducible exact ih2 _ _ _ _ _ _ _ _ _ _ _ _)
   | (with_reducible exact ih3 _ _ _ _ _ _ _ _)
   | (with_reducible exact ih4 _ _ _ _ _)
   | (with_reducible exact ih5 _ _ _ _)
   | (with_reducible exact ih6)
   | (with_reducible exact ih7 _ _ _ _ _)
   | (with_reducible exact ih8 _ _ _ _ _)
   | (with_reducible exact ih9 _ _ _ _ _ _)
   | (with_reducible exact ih10 _ _ _ _ _)
   | (with_reducible exact lexer_Tokens.mono _ _)
   | (with_reducible exact sortilegelaw05_awake.mono _)
   | (with_reducible exact sortilegelaw05_lines.mono _ _)
   | (with_reducible exact LeO.refl _)
   | (with_reducible exact LeO.none _)
   | (with_reducible refine LeO.ite ?_ ?_)
   | (with_reducible refine LeO.bind ?_ (fun _ => ?_))
   | exact ih0 _ _ _
   | exact ih1 _ _
   | exact ih2 _ _ _ _ _ _ _ _ _ _ _ _
   | exact ih3 _ _ _ _ _ _ _ _
   | exact ih4 _ _ _ _ _
   | exact ih5 _ _ _ _
   | exact ih6
   | exact ih7 _ _ _ _ _
   | exact ih8 _ _ _ _ _
   | exact ih9 _ _ _ _ _ _
   | exact ih10 _ _ _ _ _
   | exact lexer_Tokens.mono _ _
   | exact sortilegelaw05_awake.mono _
   | exact sortilegelaw05_lines.mono _ _
   | exact LeO.none _
   | refine LeO.ite ?_ ?_
   | refine LeO.bind ?_ (fun _ => ?_)
  ·intro y0 y1 y2 y3 y4
   unfold sortilegelaw05_LexerLines.j9
   repeat' first
   | (with_reducible exact ih0 _ _ _)
   | (with_reducible exact ih1 _ _)
   | (with_reducible exact ih2 _ _ _ _ _ _ _ _ _ _ _ _)
   | (with_reducible exact ih3 _ _ _ _ _ _ _ _)
   | (with_reducible exact ih4 _ _ _ _ _)
   | (with_reducible exact ih5 _ _ _ _)
   | (with_reducible exact ih6)
   | (with_reducible exact ih7 _ _ _ _ _)
   | (with_reducible exact ih8 _ _ _ _ _)
   | (with_reducible exact ih9 _ _ _ _ _ _)
   | (with_reducible exact ih10 _ _ _ _ _)
   | (with_reducible exact lexer_Tokens.mono _ _)
   | (with_reducible exact sortilegelaw05_awake.mono _)
   | (with_reducible exact sortilegelaw05_lines.mono _ _)
   | (with_reducible exact LeO.refl _)
   | (with_reducible exact LeO.none _)
   | (with_reducible refine LeO.ite ?_ ?_)
   | (with_reducible refine LeO.bind ?_ (fun _ => ?_))
   | exact ih0 _ _ _
   | exact ih1 _ _
   | exact ih2 _ _ _ _ _ _ _ _ _ _ _ _
   | exact ih3 _ _ _ _ _ _ _ _
   | exact ih4 _ _ _ _ _
   | exact ih5 _ _ _ _
   | exact ih6
   | exact ih7 _ _ _ _ _
   | exact ih8 _ _ _ _ _
   | exact ih9 _ _ _ _ _ _
   | exact ih10 _ _ _ _ _
   | exact lexer_Tokens.mono _ _
   | exact sortilegelaw05_awake.mono _
   | exact sortilegelaw05_lines.mono _ _
   | exact LeO.none _
   | refine LeO.ite ?_ ?_
   | refine LeO.bind ?_ (fun _ => ?_)
theorem sortilegelaw05_LexerLines.mono : ∀ a0 a1 k, LeO (sortilegelaw05_LexerLines.f k a0 a1) (sortilegelaw05_LexerLines.f (k + 1) a0 a1) := by
 intro a0 a1 k
 obtain ⟨ih0, ih1, ih2, ih3, ih4, ih5, ih6, ih7, ih8, ih9, ih10⟩ := sortilegelaw05_LexerLines.mono_l k
 unfold sortilegelaw05_LexerLines.f
 repeat' first
   | (with_reducible exact ih0 _ _ _)
   | (with_reducible exact ih1 _ _)
   | (with_reducible exact ih2 _ _ _ _ _ _ _ _ _ _ _ _)
   | (with_reducible exact ih3 _ _ _ _ _ _ _ _)
   | (with_reducible exact ih4 _ _ _ _ _)
   | (with_reducible exact ih5 _ _ _ _)
   | (with_reducible exact ih6)
   | (with_reducible exact ih7 _ _ _ _ _)
   | (with_reducible exact ih8 _ _ _ _ _)
   | (with_reducible exact ih9 _ _ _ _ _ _)
   | (with_reducible exact ih10 _ _ _ _ _)
   | (with_reducible exact lexer_Tokens.mono _ _)
   | (with_reducible exact sortilegelaw05_awake.mono _)
   | (with_reducible exact sortilegelaw05_lines.mono _ _)
   | (with_reducible exact LeO.refl _)
   | (with_reducible exact LeO.none _)
   | (with_reducible refine LeO.ite ?_ ?_)
   | (with_reducible refine LeO.bind ?_ (fun _ => ?_))
   | exact ih0 _ _ _
   | exact ih1 _ _
   | exact ih2 _ _ _ _ _ _ _ _ _ _ _ _
   | exact ih3 _ _ _ _ _ _ _ _
   | exact ih4 _ _ _ _ _
   | exact ih5 _ _ _ _
   | exact ih6
   | exact ih7 _ _ _ _ _
   | exact ih8 _ _ _ _ _
   | exact ih9 _ _ _ _ _ _
   | exact ih10 _ _ _ _ _
   | exact lexer_Tokens.mono _ _
   | exact sortilegelaw05_awake.mono _
   | exact sortilegelaw05_lines.mono _ _
   | exact LeO.none _
   | refine LeO.ite ?_ ?_
   | refine LeO.bind ?_ (fun _ => ?_)
theorem quiet_load_row {P : Program} {C : World → Prop} {o : Oper} {a : Act} {K : Act → Prop} (ty : TypeId) (x : Operand) (ho : o.op = .load ty x) (g : Nat) (hx : a.eval x = .pointer (some ⟨g, 0, none⟩)) (t : TypeId) (cs : Array Value) (fr : Nat × Nat) (d : TypeDesc) (hg : ∀ w, C w → w.heap[g]? = some (.cells cs t fr)) (hu : P.underlying ty = some d) (hd : (match d with | .struct _ | .array _ _ => true | _ => false) = true) (hi : (P.info? ty).map (·.size) = some cs.size) (h : K (a.put o.dst (.agg cs))) : o.quiet P a C K :=
  ⟨.agg cs, fun w hw => by
    unfold Oper.quietAt execOp
    simp only [ho, hx, Instr.loadAt, Instr.sureAddr, Sem.run_bind, Sem.run_pure, Result.andThen_ok, run_loadVar_row w g t ty cs fr d (hg w hw) hu hd hi]
    exact ⟨rfl, rfl⟩, h⟩
set_option maxHeartbeats 8000000 in
set_option maxRecDepth 100000 in
theorem sortilegelaw05_LexerLines.calls (k : Nat) (a0 : ByteArray) (a1 : ByteArray) (r : Bool) (w : World) (hs_ : Sane w) (h : sortilegelaw05_LexerLines.f k a0 a1 = some r) :
  Calls Try.prog 6 #[.string a0, .string a1] w fun e w' => e = .returned (.bool r) ∧ Below w.heap.size w w' := by
 have hu26 := Try.underlying26
 have hu36 := Try.underlying36
 have HB := Aside0.mk (Below.refl w.heap.size w)
 have H : (if (a0.size : Int) > 9000 then (sortilegelaw05_LexerLines.j0 k a0 a1 true) else (sortilegelaw05_LexerLines.j0 k a0 a1 (decide ((a1.size : Int) > 9000)))) = some r := h
 clear h
 have HC3 := Aside0.mk H
 clear H
 go_enter Try.func6, Try.ntmps6
 go_upto_region 1 with (fail)
 go_cut [21] (fun v21 wc => ∃ (kq : Nat) (x21_2 : Bool), v21 = .bool x21_2 ∧ Aside0 (sortilegelaw05_LexerLines.j0 kq a0 a1 x21_2 = some r) ∧ Aside0 (kq ≤ k) ∧ Aside0 (Below w.heap.size w wc))
 case first =>
  have H := HC3.out
  clear HC3
  by_cases c4 : (a0.size : Int) > 9000
  ·rw [if_pos c4] at H
   have c4b0 : decide (9000 < (a0.size : Int)) = true := decide_eq_true c4
   have c4b1 : decide (9000 < a0.size) = true := decide_eq_true (by omega)
   clear c4
   (first | rw [c4b0] | (simp only [i64_w, i32_w]; rw [c4b0]) | skip)
   have H' := Aside0.mk H
   clear H
   go_wp2
   go_meet
   case rel => exact ⟨_, (true), (by first | rfl | (simp; done) | (simp [*]; done)), H', ⟨by first | omega | exact Nat.le_refl _⟩, ⟨by repeat (first | (with_reducible first | exact HB.out | apply below_alloc | apply pw_below_drewN | apply below_drew1) | exact HB.out)⟩⟩
  ·rw [if_neg c4] at H
   have c4b0 : decide (9000 < (a0.size : Int)) = false := decide_eq_false c4
   have c4b1 : decide (9000 < a0.size) = false := decide_eq_false (by omega)
   clear c4
   (first | rw [c4b0] | (simp only [i64_w, i32_w]; rw [c4b0]) | skip)
   have H' := Aside0.mk H
   clear H
   go_wp2
   go_meet
   case rel => exact ⟨_, (decide ((a1.size : Int) > 9000)), (by first | rfl | (simp; done) | (simp [*]; done)), H', ⟨by first | omega | exact Nat.le_refl _⟩, ⟨by repeat (first | (with_reducible first | exact HB.out | apply below_alloc | apply pw_below_drewN | apply below_drew1) | exact HB.out)⟩⟩
 case rest =>
  clear HC3
  (try clear p2); (try clear c4); (try clear c4b0); (try clear c4b1)
  obtain ⟨kq, x21_2, rfl, HA, HJ2, HB⟩ := hcut
  cases kq with
  | zero => exact absurd HA.out (by simp [sortilegelaw05_LexerLines.j0])
  | succ kj2 =>
   have H := HA.out
   clear HA
   simp only [sortilegelaw05_LexerLines.j0] at H
   have HC5 := Aside0.mk H
   clear H
   go_upto_if 21 with (fail)
   go_cut [] (fun wc => ∃ (kq : Nat), Aside0 (sortilegelaw05_LexerLines.j1 kq a0 a1 = some r) ∧ Aside0 (kq ≤ kj2) ∧ Aside0 (Below w.heap.size w wc))
   case first =>
    have H := HC5.out
    clear HC5
    by_cases c6 : x21_2 = true
    ·subst c6
     have H1 : ((sortilegelaw05_awake.f kj2).bind fun t273 => (some t273)) = some r := by rw [if_pos rfl] at H; exact H
     clear H
     have H := H1
     clear H1
     replace H := Option.bind_eq_some_iff.mp H
     obtain ⟨t273, A70, H⟩ := H
     replace H : (some t273) = some r := H
     have A7 := Aside0.mk A70
     clear A70
     obtain rfl := Option.some.inj H
     go_wp2_with (first | (go_at_call 9; (with_reducible refine (sortilegelaw05_awake.calls kj2  t273 _ ?side1 A7.out).mono ?_); (case side1 => first | (with_reducible exact hs_) | exact Sane.below hs_ (by repeat (first | (with_reducible first | exact HB.out | apply below_alloc | apply pw_below_drewN | apply below_drew1) | exact HB.out))); rintro e w8 ⟨rfl, hb⟩; have n0_ := Aside0.mk (below_step (by repeat (first | (with_reducible first | exact HB.out | apply below_alloc | apply pw_below_drewN | apply below_drew1) | exact HB.out)) hb); clear HB; have HB := n0_; clear n0_; (try clear hb); (try clear hb2); (try clear hk); (try clear hi)))
     go_ret
     exact ⟨by first | rfl | (simp [errW_none, errW_some] <;> rfl) | (simp [*, errW_none, errW_some] <;> rfl), by repeat (first | (with_reducible first | exact HB.out | apply below_alloc | apply pw_below_drewN | apply below_drew1) | exact HB.out)⟩
    ·replace c6 := Bool.eq_false_iff.mpr c6
     subst c6
     have H1 : (sortilegelaw05_LexerLines.j1 kj2 a0 a1) = some r := by rw [if_neg (show ¬ (false = true) by decide)] at H; exact H
     clear H
     have H := H1
     clear H1
     have H' := Aside0.mk H
     clear H
     go_wp2
     go_meet
     case rel => exact ⟨_, H', ⟨by have := HJ2.out; first | omega | exact Nat.le_refl _⟩, ⟨by repeat (first | (with_reducible first | exact HB.out | apply below_alloc | apply pw_below_drewN | apply below_drew1) | exact HB.out)⟩⟩
   case rest =>
    clear HC5
    (try clear p2); (try clear c4); (try clear c4b0); (try clear c4b1); (try clear c6)
    obtain ⟨kq, HA, HJ4, HB⟩ := hcut
    cases kq with
    | zero => exact absurd HA.out (by simp [sortilegelaw05_LexerLines.j1])
    | succ kj4 =>
     have H := HA.out
     clear HA
     simp only [sortilegelaw05_LexerLines.j1] at H
     by_cases c9 : a0.size + 1 ≤ 9223372036854775807
     ·rw [if_pos c9] at H
      have c9b0 := eq_true c9
      have c9b1 : decide (a0.size + 1 ≤ 9223372036854775807) = true := decide_eq_true c9
      try have c9b2 : (9223372036854775807 < a0.size + 1) = False := eq_false (Nat.not_lt.2 c9)
      replace H := Option.bind_eq_some_iff.mp H
      obtain ⟨⟨t274, t277, t278, t279, t280⟩, A100, H⟩ := H
      replace H : ((lexer_Tokens.f kj4 a1).bind fun bt282 => (if (a0 ++ (⟨#[10]⟩ : ByteArray)).size + a1.size ≤ 9223372036854775807 then ((lexer_Tokens.f kj4 ((a0 ++ (⟨#[10]⟩ : ByteArray)) ++ a1)).bind fun bt290 => (if t277 = 0 then (sortilegelaw05_LexerLines.j2 kj4 (a0 ++ (⟨#[10]⟩ : ByteArray)) t274 bt282.1 bt290.1 bt282.2.1 bt282.2.2.1 bt282.2.2.2.1 bt282.2.2.2.2 bt290.2.1 bt290.2.2.1 bt290.2.2.2.1 bt290.2.2.2.2) else (if (bt290.2.1 == t277 && (bt290.2.2.1.toList == t278.toList && (bt290.2.2.2.1 == t279 && (bt290.2.2.2.2 == t280)))) = true then (if (bt290.1.length : Int) = 0 then ((sortilegelaw05_awake.f kj4).bind fun t298 => (some t298)) else (some false)) else (some false)))) else (none))) = some r := H
      have A10 := Aside0.mk A100
      clear A100
      replace H := Option.bind_eq_some_iff.mp H
      obtain ⟨⟨t282, t285, t286, t287, t288⟩, A110, H⟩ := H
      replace H : (if (a0 ++ (⟨#[10]⟩ : ByteArray)).size + a1.size ≤ 9223372036854775807 then ((lexer_Tokens.f kj4 ((a0 ++ (⟨#[10]⟩ : ByteArray)) ++ a1)).bind fun bt290 => (if t277 = 0 then (sortilegelaw05_LexerLines.j2 kj4 (a0 ++ (⟨#[10]⟩ : ByteArray)) t274 t282 bt290.1 t285 t286 t287 t288 bt290.2.1 bt290.2.2.1 bt290.2.2.2.1 bt290.2.2.2.2) else (if (bt290.2.1 == t277 && (bt290.2.2.1.toList == t278.toList && (bt290.2.2.2.1 == t279 && (bt290.2.2.2.2 == t280)))) = true then (if (bt290.1.length : Int) = 0 then ((sortilegelaw05_awake.f kj4).bind fun t298 => (some t298)) else (some false)) else (some false)))) else (none)) = some r := H
      have A11 := Aside0.mk A110
      clear A110
      by_cases c12 : (a0 ++ (⟨#[10]⟩ : ByteArray)).size + a1.size ≤ 9223372036854775807
      ·rw [if_pos c12] at H
       have c12b0 := eq_true c12
       have c12b1 : decide ((a0 ++ (⟨#[10]⟩ : ByteArray)).size + a1.size ≤ 9223372036854775807) = true := decide_eq_true c12
       try have c12b2 : (9223372036854775807 < (a0 ++ (⟨#[10]⟩ : ByteArray)).size + a1.size) = False := eq_false (Nat.not_lt.2 c12)
       replace H := Option.bind_eq_some_iff.mp H
       obtain ⟨⟨t290, t293, t294, t295, t296⟩, A130, H⟩ := H
       replace H : (if t277 = 0 then (sortilegelaw05_LexerLines.j2 kj4 (a0 ++ (⟨#[10]⟩ : ByteArray)) t274 t282 t290 t285 t286 t287 t288 t293 t294 t295 t296) else (if (t293 == t277 && (t294.toList == t278.toList && (t295 == t279 && (t296 == t280)))) = true then (if (t290.length : Int) = 0 then ((sortilegelaw05_awake.f kj4).bind fun t298 => (some t298)) else (some false)) else (some false))) = some r := H
       have A13 := Aside0.mk A130
       clear A130
       have HC14 := Aside0.mk H
       clear H
       go_upto_if 44 with (first | (go_at_call 10; (with_reducible refine (lexer_Tokens.calls kj4 (a0 ++ (⟨#[10]⟩ : ByteArray)) t274 t277 t278 t279 t280 _ ?side1 A10.out).mono ?_); (case side1 => first | (with_reducible exact hs_) | exact Sane.below hs_ (by repeat (first | (with_reducible first | exact HB.out | apply below_alloc | apply pw_below_drewN | apply below_drew1) | exact HB.out))); rintro e w15 ⟨v275, rfl, ho0, hb⟩; have n0_ := Aside0.mk (Kd.R_lower ho0 (below_size (by repeat (first | (with_reducible first | exact HB.out | apply below_alloc | apply pw_below_drewN | apply below_drew1) | exact HB.out)))); have n1_ := Aside0.mk (below_step (by repeat (first | (with_reducible first | exact HB.out | apply below_alloc | apply pw_below_drewN | apply below_drew1) | exact HB.out)) hb); clear HB; have HO276 := n0_; have HB := n1_; clear n0_ n1_; (try clear hb); (try clear hb2); (try clear hk); (try clear hi); (try clear ho0)) | ((with_reducible refine gate_dst (N := 6) rfl ?_); (try (refine gate_guard (by rfl) ?_; dsimp only)); refine box_event ?hg (N := 6) ?hd (cs := #[.int .i64 0, .string (⟨#[]⟩ : ByteArray), .int .i64 0, .int .i64 0]) (t := 26) ?hr ?_; (case hd => rfl); (case hg => rfl); (case hr => first | (go_simp; done) | (go_simp; rfl)); intro gb281 hg w16 hbox hb; have n0_ := Aside0.mk (Kd.R_below (by (with_reducible repeat (first | apply Kd.R_alloc | apply Kd.R_drewN | apply Kd.R_drew)); exact HO276.out) hb); have n1_ := Aside0.mk (below_step (by repeat (first | (with_reducible first | exact HB.out | apply below_alloc | apply pw_below_drewN | apply below_drew1) | exact HB.out)) hb); have n2_ := Aside0.mk (hbox); have n3_ := Aside0.mk ((by rw [hg]; exact (below_size (by repeat (first | (with_reducible first | exact HB.out | apply below_alloc | apply pw_below_drewN | apply below_drew1) | exact HB.out))) : w.heap.size ≤ gb281)); have n4_ := Aside0.mk ((by rw [hg]; exact (below_size (by repeat (first | (with_reducible first | exact HB.out | apply below_alloc | apply pw_below_drewN | apply below_drew1) | exact HB.out))) : w.heap.size ≤ gb281)); clear HO276; clear HB; have HO276 := n0_; have HB := n1_; have BK281 := n2_; have GW281 := n3_; have GE281 := n4_; clear n0_ n1_ n2_ n3_ n4_; clear hb hbox hg; have hcz17_0 : w16.cell? ⟨gb281, 0, none⟩ = some (.int .i64 0) := (blk_cell BK281.out 0).trans rfl; have hcz17_1 : w16.cell? ⟨gb281, 1, none⟩ = some (.string (⟨#[]⟩ : ByteArray)) := (blk_cell BK281.out 1).trans rfl; have hcz17_2 : w16.cell? ⟨gb281, 2, none⟩ = some (.int .i64 0) := (blk_cell BK281.out 2).trans rfl; have hcz17_3 : w16.cell? ⟨gb281, 3, none⟩ = some (.int .i64 0) := (blk_cell BK281.out 3).trans rfl; have hfz17_0 := blk_frozen BK281.out 0; have hfz17_1 := blk_frozen BK281.out 1; have hfz17_2 := blk_frozen BK281.out 2; have hfz17_3 := blk_frozen BK281.out 3) | (go_at_call 10; (with_reducible refine (lexer_Tokens.calls kj4 a1 t282 t285 t286 t287 t288 _ ?side1 A11.out).mono ?_); (case side1 => first | (with_reducible exact hs_) | exact Sane.below hs_ (by repeat (first | (with_reducible first | exact HB.out | apply below_alloc | apply pw_below_drewN | apply below_drew1 | refine below_set ?_ GE281.out) | exact HB.out))); rintro e w18 ⟨v283, rfl, ho0, hb⟩; have n0_ := Aside0.mk (Kd.R_elder' (by (with_reducible repeat (first | apply Kd.R_alloc | apply Kd.R_drewN | apply Kd.R_drew)); exact (Kd.R_mono (Kd.R_far (p := ⟨gb281, 3, none⟩) (Kd.R_far (p := ⟨gb281, 2, none⟩) (Kd.R_far (p := ⟨gb281, 1, none⟩) (Kd.R_far (p := ⟨gb281, 0, none⟩) (Kd.R_types HO276.out BK281.out (by decide)) (fun _ hk => hk.2) (.int .i64 t277)) (fun _ hk => hk.2) (.string t278)) (fun _ hk => hk.2) (.int .i64 t279)) (fun _ hk => hk.2) (.int .i64 t280)) (fun _ h_ => h_.1))) (Kd.R_base ho0) hb); have n1_ := Aside0.mk (Kd.R_lower (Kd.R_new' ho0 (Kd.R_lt (by (with_reducible repeat (first | apply Kd.R_alloc | apply Kd.R_drewN | apply Kd.R_drew)); exact (Kd.R_mono (Kd.R_far (p := ⟨gb281, 3, none⟩) (Kd.R_far (p := ⟨gb281, 2, none⟩) (Kd.R_far (p := ⟨gb281, 1, none⟩) (Kd.R_far (p := ⟨gb281, 0, none⟩) (Kd.R_types HO276.out BK281.out (by decide)) (fun _ hk => hk.2) (.int .i64 t277)) (fun _ hk => hk.2) (.string t278)) (fun _ hk => hk.2) (.int .i64 t279)) (fun _ hk => hk.2) (.int .i64 t280)) (fun _ h_ => h_.1))))) (below_size (by repeat (first | (with_reducible first | exact HB.out | apply below_alloc | apply pw_below_drewN | apply below_drew1 | refine below_set ?_ GE281.out) | exact HB.out)))); have n2_ := Aside0.mk (blk_below (g := gb281) (o := .cells #[.int .i64 t277, .string t278, .int .i64 t279, .int .i64 t280] 26 (0, 0)) (by (with_reducible repeat (first | refine blk_drewN ?_ _ | refine blk_drew ?_ | refine blk_alloc ?_ _)); refine blk_put (cs := #[.int .i64 t277, .string t278, .int .i64 t279, .int .i64 0]) ?_ 3 _ rfl; (with_reducible repeat (first | refine blk_drewN ?_ _ | refine blk_drew ?_ | refine blk_alloc ?_ _)); refine blk_put (cs := #[.int .i64 t277, .string t278, .int .i64 0, .int .i64 0]) ?_ 2 _ rfl; (with_reducible repeat (first | refine blk_drewN ?_ _ | refine blk_drew ?_ | refine blk_alloc ?_ _)); refine blk_put (cs := #[.int .i64 t277, .string (⟨#[]⟩ : ByteArray), .int .i64 0, .int .i64 0]) ?_ 1 _ rfl; (with_reducible repeat (first | refine blk_drewN ?_ _ | refine blk_drew ?_ | refine blk_alloc ?_ _)); refine blk_put (cs := #[.int .i64 0, .string (⟨#[]⟩ : ByteArray), .int .i64 0, .int .i64 0]) ?_ 0 _ rfl; (with_reducible repeat (first | refine blk_drewN ?_ _ | refine blk_drew ?_ | refine blk_alloc ?_ _)); exact BK281.out) hb); have n3_ := Aside0.mk (below_step (by repeat (first | (with_reducible first | exact HB.out | apply below_alloc | apply pw_below_drewN | apply below_drew1 | refine below_set ?_ GE281.out) | exact HB.out)) hb); clear HO276; clear BK281; clear HB; have HO276 := n0_; have HO284 := n1_; have BK281 := n2_; have HB := n3_; clear n0_ n1_ n2_ n3_; (try clear hb); (try clear hb2); (try clear hk); (try clear hi); (try clear ho0)) | ((with_reducible refine gate_dst (N := 8) rfl ?_); (try (refine gate_guard (by rfl) ?_; dsimp only)); refine box_event ?hg (N := 8) ?hd (cs := #[.int .i64 0, .string (⟨#[]⟩ : ByteArray), .int .i64 0, .int .i64 0]) (t := 26) ?hr ?_; (case hd => rfl); (case hg => rfl); (case hr => first | (go_simp; done) | (go_simp; rfl)); intro gb289 hg w19 hbox hb; have n0_ := Aside0.mk (Kd.R_below (by (with_reducible repeat (first | apply Kd.R_alloc | apply Kd.R_drewN | apply Kd.R_drew)); exact HO276.out) hb); have n1_ := Aside0.mk (Kd.R_below (by (with_reducible repeat (first | apply Kd.R_alloc | apply Kd.R_drewN | apply Kd.R_drew)); exact HO284.out) hb); have n2_ := Aside0.mk (blk_below (g := gb281) (o := .cells #[.int .i64 t277, .string t278, .int .i64 t279, .int .i64 t280] 26 (0, 0)) (by (with_reducible repeat (first | refine blk_drewN ?_ _ | refine blk_drew ?_ | refine blk_alloc ?_ _)); exact BK281.out) hb); have n3_ := Aside0.mk (below_step (by repeat (first | (with_reducible first | exact HB.out | apply below_alloc | apply pw_below_drewN | apply below_drew1 | refine below_set ?_ GE281.out) | exact HB.out)) hb); have n4_ := Aside0.mk (hbox); have n5_ := Aside0.mk ((by rw [hg]; exact (below_size (by repeat (first | (with_reducible first | exact HB.out | apply below_alloc | apply pw_below_drewN | apply below_drew1 | refine below_set ?_ GE281.out) | exact HB.out))) : w.heap.size ≤ gb289)); have n6_ := Aside0.mk ((by rw [hg]; exact (below_size (by repeat (first | (with_reducible first | exact HB.out | apply below_alloc | apply pw_below_drewN | apply below_drew1 | refine below_set ?_ GE281.out) | exact HB.out))) : w.heap.size ≤ gb289)); have n7_ := Aside0.mk ((by rw [hg]; exact Nat.ne_of_lt (blk_lt (g := gb281) (o := .cells #[.int .i64 t277, .string t278, .int .i64 t279, .int .i64 t280] 26 (0, 0)) (by (with_reducible repeat (first | refine blk_drewN ?_ _ | refine blk_drew ?_ | refine blk_alloc ?_ _)); exact BK281.out)) : gb281 ≠ gb289)); have n8_ := Aside0.mk ((by rw [hg]; exact Nat.ne_of_gt (blk_lt (g := gb281) (o := .cells #[.int .i64 t277, .string t278, .int .i64 t279, .int .i64 t280] 26 (0, 0)) (by (with_reducible repeat (first | refine blk_drewN ?_ _ | refine blk_drew ?_ | refine blk_alloc ?_ _)); exact BK281.out)) : gb289 ≠ gb281)); clear HO276; clear HO284; clear BK281; clear HB; have HO276 := n0_; have HO284 := n1_; have BK281 := n2_; have HB := n3_; have BK289 := n4_; have GW289 := n5_; have GE289 := n6_; have NB281_289 := n7_; have NB289_281 := n8_; clear n0_ n1_ n2_ n3_ n4_ n5_ n6_ n7_ n8_; clear hb hbox hg; have hnb20 := NB289_281.out; have hnc20 := NB281_289.out; have hcz21_0 : w19.cell? ⟨gb289, 0, none⟩ = some (.int .i64 0) := (blk_cell BK289.out 0).trans rfl; have hcz21_1 : w19.cell? ⟨gb289, 1, none⟩ = some (.string (⟨#[]⟩ : ByteArray)) := (blk_cell BK289.out 1).trans rfl; have hcz21_2 : w19.cell? ⟨gb289, 2, none⟩ = some (.int .i64 0) := (blk_cell BK289.out 2).trans rfl; have hcz21_3 : w19.cell? ⟨gb289, 3, none⟩ = some (.int .i64 0) := (blk_cell BK289.out 3).trans rfl; have hfz21_0 := blk_frozen BK289.out 0; have hfz21_1 := blk_frozen BK289.out 1; have hfz21_2 := blk_frozen BK289.out 2; have hfz21_3 := blk_frozen BK289.out 3) | (go_at_call 10; (with_reducible refine (lexer_Tokens.calls kj4 ((a0 ++ (⟨#[10]⟩ : ByteArray)) ++ a1) t290 t293 t294 t295 t296 _ ?side1 A13.out).mono ?_); (case side1 => first | (with_reducible exact hs_) | exact Sane.below hs_ (by repeat (first | (with_reducible first | exact HB.out | apply below_alloc | apply pw_below_drewN | apply below_drew1 | refine below_set ?_ GE281.out | refine below_set ?_ GE289.out) | exact HB.out))); rintro e w22 ⟨v291, rfl, ho0, hb⟩; have n0_ := Aside0.mk (Kd.R_elder' (by (with_reducible repeat (first | apply Kd.R_alloc | apply Kd.R_drewN | apply Kd.R_drew)); exact (Kd.R_mono (Kd.R_far (p := ⟨gb289, 3, none⟩) (Kd.R_far (p := ⟨gb289, 2, none⟩) (Kd.R_far (p := ⟨gb289, 1, none⟩) (Kd.R_far (p := ⟨gb289, 0, none⟩) (Kd.R_types HO276.out BK289.out (by decide)) (fun _ hk => hk.2) (.int .i64 t285)) (fun _ hk => hk.2) (.string t286)) (fun _ hk => hk.2) (.int .i64 t287)) (fun _ hk => hk.2) (.int .i64 t288)) (fun _ h_ => h_.1))) (Kd.R_base ho0) hb); have n1_ := Aside0.mk (Kd.R_elder' (by (with_reducible repeat (first | apply Kd.R_alloc | apply Kd.R_drewN | apply Kd.R_drew)); exact (Kd.R_mono (Kd.R_far (p := ⟨gb289, 3, none⟩) (Kd.R_far (p := ⟨gb289, 2, none⟩) (Kd.R_far (p := ⟨gb289, 1, none⟩) (Kd.R_far (p := ⟨gb289, 0, none⟩) (Kd.R_types HO284.out BK289.out (by decide)) (fun _ hk => hk.2) (.int .i64 t285)) (fun _ hk => hk.2) (.string t286)) (fun _ hk => hk.2) (.int .i64 t287)) (fun _ hk => hk.2) (.int .i64 t288)) (fun _ h_ => h_.1))) (Kd.R_base ho0) hb); have n2_ := Aside0.mk (Kd.R_lower (Kd.R_new' (Kd.R_new' ho0 (Kd.R_lt (by (with_reducible repeat (first | apply Kd.R_alloc | apply Kd.R_drewN | apply Kd.R_drew)); exact (Kd.R_mono (Kd.R_far (p := ⟨gb289, 3, none⟩) (Kd.R_far (p := ⟨gb289, 2, none⟩) (Kd.R_far (p := ⟨gb289, 1, none⟩) (Kd.R_far (p := ⟨gb289, 0, none⟩) (Kd.R_types HO276.out BK289.out (by decide)) (fun _ hk => hk.2) (.int .i64 t285)) (fun _ hk => hk.2) (.string t286)) (fun _ hk => hk.2) (.int .i64 t287)) (fun _ hk => hk.2) (.int .i64 t288)) (fun _ h_ => h_.1))))) (Kd.R_lt (by (with_reducible repeat (first | apply Kd.R_alloc | apply Kd.R_drewN | apply Kd.R_drew)); exact (Kd.R_mono (Kd.R_far (p := ⟨gb289, 3, none⟩) (Kd.R_far (p := ⟨gb289, 2, none⟩) (Kd.R_far (p := ⟨gb289, 1, none⟩) (Kd.R_far (p := ⟨gb289, 0, none⟩) (Kd.R_types HO284.out BK289.out (by decide)) (fun _ hk => hk.2) (.int .i64 t285)) (fun _ hk => hk.2) (.string t286)) (fun _ hk => hk.2) (.int .i64 t287)) (fun _ hk => hk.2) (.int .i64 t288)) (fun _ h_ => h_.1))))) (below_size (by repeat (first | (with_reducible first | exact HB.out | apply below_alloc | apply pw_below_drewN | apply below_drew1 | refine below_set ?_ GE281.out | refine below_set ?_ GE289.out) | exact HB.out)))); have n3_ := Aside0.mk (blk_below (g := gb281) (o := .cells #[.int .i64 t277, .string t278, .int .i64 t279, .int .i64 t280] 26 (0, 0)) (by (with_reducible repeat (first | refine blk_drewN ?_ _ | refine blk_drew ?_ | refine blk_alloc ?_ _)); refine blk_far ?_ NB281_289.out _; (with_reducible repeat (first | refine blk_drewN ?_ _ | refine blk_drew ?_ | refine blk_alloc ?_ _)); refine blk_far ?_ NB281_289.out _; (with_reducible repeat (first | refine blk_drewN ?_ _ | refine blk_drew ?_ | refine blk_alloc ?_ _)); refine blk_far ?_ NB281_289.out _; (with_reducible repeat (first | refine blk_drewN ?_ _ | refine blk_drew ?_ | refine blk_alloc ?_ _)); refine blk_far ?_ NB281_289.out _; (with_reducible repeat (first | refine blk_drewN ?_ _ | refine blk_drew ?_ | refine blk_alloc ?_ _)); exact BK281.out) hb); have n4_ := Aside0.mk (blk_below (g := gb289) (o := .cells #[.int .i64 t285, .string t286, .int .i64 t287, .int .i64 t288] 26 (0, 0)) (by (with_reducible repeat (first | refine blk_drewN ?_ _ | refine blk_drew ?_ | refine blk_alloc ?_ _)); refine blk_put (cs := #[.int .i64 t285, .string t286, .int .i64 t287, .int .i64 0]) ?_ 3 _ rfl; (with_reducible repeat (first | refine blk_drewN ?_ _ | refine blk_drew ?_ | refine blk_alloc ?_ _)); refine blk_put (cs := #[.int .i64 t285, .string t286, .int .i64 0, .int .i64 0]) ?_ 2 _ rfl; (with_reducible repeat (first | refine blk_drewN ?_ _ | refine blk_drew ?_ | refine blk_alloc ?_ _)); refine blk_put (cs := #[.int .i64 t285, .string (⟨#[]⟩ : ByteArray), .int .i64 0, .int .i64 0]) ?_ 1 _ rfl; (with_reducible repeat (first | refine blk_drewN ?_ _ | refine blk_drew ?_ | refine blk_alloc ?_ _)); refine blk_put (cs := #[.int .i64 0, .string (⟨#[]⟩ : ByteArray), .int .i64 0, .int .i64 0]) ?_ 0 _ rfl; (with_reducible repeat (first | refine blk_drewN ?_ _ | refine blk_drew ?_ | refine blk_alloc ?_ _)); exact BK289.out) hb); have n5_ := Aside0.mk (below_step (by repeat (first | (with_reducible first | exact HB.out | apply below_alloc | apply pw_below_drewN | apply below_drew1 | refine below_set ?_ GE281.out | refine below_set ?_ GE289.out) | exact HB.out)) hb); clear HO276; clear HO284; clear BK281; clear BK289; clear HB; have HO276 := n0_; have HO284 := n1_; have HO292 := n2_; have BK281 := n3_; have BK289 := n4_; have HB := n5_; clear n0_ n1_ n2_ n3_ n4_ n5_; (try clear hb); (try clear hb2); (try clear hk); (try clear hi); (try clear ho0)) | ((with_reducible refine gate_dst (N := 10) rfl ?_); (try (refine gate_guard (by rfl) ?_; dsimp only)); refine box_event ?hg (N := 10) ?hd (cs := #[.int .i64 0, .string (⟨#[]⟩ : ByteArray), .int .i64 0, .int .i64 0]) (t := 26) ?hr ?_; (case hd => rfl); (case hg => rfl); (case hr => first | (go_simp; done) | (go_simp; rfl)); intro gb297 hg w23 hbox hb; have n0_ := Aside0.mk (Kd.R_below (by (with_reducible repeat (first | apply Kd.R_alloc | apply Kd.R_drewN | apply Kd.R_drew)); exact HO276.out) hb); have n1_ := Aside0.mk (Kd.R_below (by (with_reducible repeat (first | apply Kd.R_alloc | apply Kd.R_drewN | apply Kd.R_drew)); exact HO284.out) hb); have n2_ := Aside0.mk (Kd.R_below (by (with_reducible repeat (first | apply Kd.R_alloc | apply Kd.R_drewN | apply Kd.R_drew)); exact HO292.out) hb); have n3_ := Aside0.mk (blk_below (g := gb281) (o := .cells #[.int .i64 t277, .string t278, .int .i64 t279, .int .i64 t280] 26 (0, 0)) (by (with_reducible repeat (first | refine blk_drewN ?_ _ | refine blk_drew ?_ | refine blk_alloc ?_ _)); exact BK281.out) hb); have n4_ := Aside0.mk (blk_below (g := gb289) (o := .cells #[.int .i64 t285, .string t286, .int .i64 t287, .int .i64 t288] 26 (0, 0)) (by (with_reducible repeat (first | refine blk_drewN ?_ _ | refine blk_drew ?_ | refine blk_alloc ?_ _)); exact BK289.out) hb); have n5_ := Aside0.mk (below_step (by repeat (first | (with_reducible first | exact HB.out | apply below_alloc | apply pw_below_drewN | apply below_drew1 | refine below_set ?_ GE281.out | refine below_set ?_ GE289.out) | exact HB.out)) hb); have n6_ := Aside0.mk (hbox); have n7_ := Aside0.mk ((by rw [hg]; exact (below_size (by repeat (first | (with_reducible first | exact HB.out | apply below_alloc | apply pw_below_drewN | apply below_drew1 | refine below_set ?_ GE281.out | refine below_set ?_ GE289.out) | exact HB.out))) : w.heap.size ≤ gb297)); have n8_ := Aside0.mk ((by rw [hg]; exact (below_size (by repeat (first | (with_reducible first | exact HB.out | apply below_alloc | apply pw_below_drewN | apply below_drew1 | refine below_set ?_ GE281.out | refine below_set ?_ GE289.out) | exact HB.out))) : w.heap.size ≤ gb297)); have n9_ := Aside0.mk ((by rw [hg]; exact Nat.ne_of_lt (blk_lt (g := gb281) (o := .cells #[.int .i64 t277, .string t278, .int .i64 t279, .int .i64 t280] 26 (0, 0)) (by (with_reducible repeat (first | refine blk_drewN ?_ _ | refine blk_drew ?_ | refine blk_alloc ?_ _)); exact BK281.out)) : gb281 ≠ gb297)); have n10_ := Aside0.mk ((by rw [hg]; exact Nat.ne_of_gt (blk_lt (g := gb281) (o := .cells #[.int .i64 t277, .string t278, .int .i64 t279, .int .i64 t280] 26 (0, 0)) (by (with_reducible repeat (first | refine blk_drewN ?_ _ | refine blk_drew ?_ | refine blk_alloc ?_ _)); exact BK281.out)) : gb297 ≠ gb281)); have n11_ := Aside0.mk ((by rw [hg]; exact Nat.ne_of_lt (blk_lt (g := gb289) (o := .cells #[.int .i64 t285, .string t286, .int .i64 t287, .int .i64 t288] 26 (0, 0)) (by (with_reducible repeat (first | refine blk_drewN ?_ _ | refine blk_drew ?_ | refine blk_alloc ?_ _)); exact BK289.out)) : gb289 ≠ gb297)); have n12_ := Aside0.mk ((by rw [hg]; exact Nat.ne_of_gt (blk_lt (g := gb289) (o := .cells #[.int .i64 t285, .string t286, .int .i64 t287, .int .i64 t288] 26 (0, 0)) (by (with_reducible repeat (first | refine blk_drewN ?_ _ | refine blk_drew ?_ | refine blk_alloc ?_ _)); exact BK289.out)) : gb297 ≠ gb289)); clear HO276; clear HO284; clear HO292; clear BK281; clear BK289; clear HB; have HO276 := n0_; have HO284 := n1_; have HO292 := n2_; have BK281 := n3_; have BK289 := n4_; have HB := n5_; have BK297 := n6_; have GW297 := n7_; have GE297 := n8_; have NB281_297 := n9_; have NB297_281 := n10_; have NB289_297 := n11_; have NB297_289 := n12_; clear n0_ n1_ n2_ n3_ n4_ n5_ n6_ n7_ n8_ n9_ n10_ n11_ n12_; clear hb hbox hg; have hnb24 := NB297_281.out; have hnc24 := NB281_297.out; have hnb25 := NB297_289.out; have hnc25 := NB289_297.out; have hcz26_0 : w23.cell? ⟨gb297, 0, none⟩ = some (.int .i64 0) := (blk_cell BK297.out 0).trans rfl; have hcz26_1 : w23.cell? ⟨gb297, 1, none⟩ = some (.string (⟨#[]⟩ : ByteArray)) := (blk_cell BK297.out 1).trans rfl; have hcz26_2 : w23.cell? ⟨gb297, 2, none⟩ = some (.int .i64 0) := (blk_cell BK297.out 2).trans rfl; have hcz26_3 : w23.cell? ⟨gb297, 3, none⟩ = some (.int .i64 0) := (blk_cell BK297.out 3).trans rfl; have hfz26_0 := blk_frozen BK297.out 0; have hfz26_1 := blk_frozen BK297.out 1; have hfz26_2 := blk_frozen BK297.out 2; have hfz26_3 := blk_frozen BK297.out 3; have hcz27_0 : w23.cell? ⟨gb281, 0, none⟩ = some (.int .i64 t277) := (blk_cell BK281.out 0).trans rfl; have hcz27_1 : w23.cell? ⟨gb281, 1, none⟩ = some (.string t278) := (blk_cell BK281.out 1).trans rfl; have hcz27_2 : w23.cell? ⟨gb281, 2, none⟩ = some (.int .i64 t279) := (blk_cell BK281.out 2).trans rfl; have hcz27_3 : w23.cell? ⟨gb281, 3, none⟩ = some (.int .i64 t280) := (blk_cell BK281.out 3).trans rfl; have hfz27_0 := blk_frozen BK281.out 0; have hfz27_1 := blk_frozen BK281.out 1; have hfz27_2 := blk_frozen BK281.out 2; have hfz27_3 := blk_frozen BK281.out 3))
       (try simp only [Act.put, List.setIfInBounds_toArray, List.set_cons_zero, List.set_cons_succ])
       go_cut [] (fun wc => ∃ (kq : Nat), Aside0 (sortilegelaw05_LexerLines.j2 kq (a0 ++ (⟨#[10]⟩ : ByteArray)) t274 t282 t290 t285 t286 t287 t288 t293 t294 t295 t296 = some r) ∧ Aside0 (kq ≤ kj4) ∧ Aside0 (Kd.R k36 36 wc w.heap.size (fun k_ => some k_ ≠ (v283 : Value).ownBlock ∧ some k_ ≠ (v291 : Value).ownBlock) v275 t274) ∧ Aside0 (Kd.R k36 36 wc w.heap.size (fun k_ => some k_ ≠ (v275 : Value).ownBlock ∧ some k_ ≠ (v291 : Value).ownBlock) v283 t282) ∧ Aside0 (Kd.R k36 36 wc w.heap.size (fun k_ => some k_ ≠ (v275 : Value).ownBlock ∧ some k_ ≠ (v283 : Value).ownBlock) v291 t290) ∧ Aside0 (wc.heap[gb281]? = some (.cells #[.int .i64 t277, .string t278, .int .i64 t279, .int .i64 t280] 26 (0, 0))) ∧ Aside0 (wc.heap[gb289]? = some (.cells #[.int .i64 t285, .string t286, .int .i64 t287, .int .i64 t288] 26 (0, 0))) ∧ Aside0 (wc.heap[gb297]? = some (.cells #[.int .i64 t293, .string t294, .int .i64 t295, .int .i64 t296] 26 (0, 0))) ∧ Aside0 (Below w.heap.size w wc))
       case first =>
        have H := HC14.out
        clear HC14
        by_cases c28 : t277 = 0
        ·rw [if_pos c28] at H
         have c28b0 : (t277 == 0) = true := beq_iff_eq.mpr c28
         have c28b1 : (t277 != 0) = false := bne_eq_false_iff_eq.mpr c28
         clear c28
         (first | rw [c28b0] | (simp only [i64_w, i32_w]; rw [c28b0]) | skip)
         have H' := Aside0.mk H
         clear H
         go_wp2
         go_meet
         case rel => exact ⟨_, H', ⟨by have := HJ2.out; have := HJ4.out; first | omega | exact Nat.le_refl _⟩, ⟨by (with_reducible repeat (first | apply Kd.R_alloc | apply Kd.R_drewN | apply Kd.R_drew)); exact Kd.R_mono (Kd.R_far (p := ⟨gb297, 3, none⟩) (Kd.R_far (p := ⟨gb297, 2, none⟩) (Kd.R_far (p := ⟨gb297, 1, none⟩) (Kd.R_far (p := ⟨gb297, 0, none⟩) (Kd.R_types HO276.out BK297.out (by decide)) (fun _ hk => hk.2) (.int .i64 t293)) (fun _ hk => hk.2) (.string t294)) (fun _ hk => hk.2) (.int .i64 t295)) (fun _ hk => hk.2) (.int .i64 t296)) (fun _ hk => ⟨hk.1.1.2, hk.1.2⟩)⟩, ⟨by (with_reducible repeat (first | apply Kd.R_alloc | apply Kd.R_drewN | apply Kd.R_drew)); exact Kd.R_mono (Kd.R_far (p := ⟨gb297, 3, none⟩) (Kd.R_far (p := ⟨gb297, 2, none⟩) (Kd.R_far (p := ⟨gb297, 1, none⟩) (Kd.R_far (p := ⟨gb297, 0, none⟩) (Kd.R_types HO284.out BK297.out (by decide)) (fun _ hk => hk.2) (.int .i64 t293)) (fun _ hk => hk.2) (.string t294)) (fun _ hk => hk.2) (.int .i64 t295)) (fun _ hk => hk.2) (.int .i64 t296)) (fun _ hk => ⟨hk.1.1.2, hk.1.2⟩)⟩, ⟨by (with_reducible repeat (first | apply Kd.R_alloc | apply Kd.R_drewN | apply Kd.R_drew)); exact Kd.R_mono (Kd.R_far (p := ⟨gb297, 3, none⟩) (Kd.R_far (p := ⟨gb297, 2, none⟩) (Kd.R_far (p := ⟨gb297, 1, none⟩) (Kd.R_far (p := ⟨gb297, 0, none⟩) (Kd.R_types HO292.out BK297.out (by decide)) (fun _ hk => hk.2) (.int .i64 t293)) (fun _ hk => hk.2) (.string t294)) (fun _ hk => hk.2) (.int .i64 t295)) (fun _ hk => hk.2) (.int .i64 t296)) (fun _ hk => ⟨hk.1.1.2, hk.1.2⟩)⟩, ⟨by (with_reducible repeat (first | refine blk_drewN ?_ _ | refine blk_drew ?_ | refine blk_alloc ?_ _)); refine blk_far ?_ NB281_297.out _; (with_reducible repeat (first | refine blk_drewN ?_ _ | refine blk_drew ?_ | refine blk_alloc ?_ _)); refine blk_far ?_ NB281_297.out _; (with_reducible repeat (first | refine blk_drewN ?_ _ | refine blk_drew ?_ | refine blk_alloc ?_ _)); refine blk_far ?_ NB281_297.out _; (with_reducible repeat (first | refine blk_drewN ?_ _ | refine blk_drew ?_ | refine blk_alloc ?_ _)); refine blk_far ?_ NB281_297.out _; (with_reducible repeat (first | refine blk_drewN ?_ _ | refine blk_drew ?_ | refine blk_alloc ?_ _)); exact BK281.out⟩, ⟨by (with_reducible repeat (first | refine blk_drewN ?_ _ | refine blk_drew ?_ | refine blk_alloc ?_ _)); refine blk_far ?_ NB289_297.out _; (with_reducible repeat (first | refine blk_drewN ?_ _ | refine blk_drew ?_ | refine blk_alloc ?_ _)); refine blk_far ?_ NB289_297.out _; (with_reducible repeat (first | refine blk_drewN ?_ _ | refine blk_drew ?_ | refine blk_alloc ?_ _)); refine blk_far ?_ NB289_297.out _; (with_reducible repeat (first | refine blk_drewN ?_ _ | refine blk_drew ?_ | refine blk_alloc ?_ _)); refine blk_far ?_ NB289_297.out _; (with_reducible repeat (first | refine blk_drewN ?_ _ | refine blk_drew ?_ | refine blk_alloc ?_ _)); exact BK289.out⟩, ⟨by (with_reducible repeat (first | refine blk_drewN ?_ _ | refine blk_drew ?_ | refine blk_alloc ?_ _)); refine blk_put (cs := #[.int .i64 t293, .string t294, .int .i64 t295, .int .i64 0]) ?_ 3 _ rfl; (with_reducible repeat (first | refine blk_drewN ?_ _ | refine blk_drew ?_ | refine blk_alloc ?_ _)); refine blk_put (cs := #[.int .i64 t293, .string t294, .int .i64 0, .int .i64 0]) ?_ 2 _ rfl; (with_reducible repeat (first | refine blk_drewN ?_ _ | refine blk_drew ?_ | refine blk_alloc ?_ _)); refine blk_put (cs := #[.int .i64 t293, .string (⟨#[]⟩ : ByteArray), .int .i64 0, .int .i64 0]) ?_ 1 _ rfl; (with_reducible repeat (first | refine blk_drewN ?_ _ | refine blk_drew ?_ | refine blk_alloc ?_ _)); refine blk_put (cs := #[.int .i64 0, .string (⟨#[]⟩ : ByteArray), .int .i64 0, .int .i64 0]) ?_ 0 _ rfl; (with_reducible repeat (first | refine blk_drewN ?_ _ | refine blk_drew ?_ | refine blk_alloc ?_ _)); exact BK297.out⟩, ⟨by repeat (first | (with_reducible first | exact HB.out | apply below_alloc | apply pw_below_drewN | apply below_drew1 | refine below_set ?_ GE281.out | refine below_set ?_ GE289.out | refine below_set ?_ GE297.out) | exact HB.out)⟩⟩
        ·rw [if_neg c28] at H
         have c28b0 : (t277 == 0) = false := beq_eq_false_iff_ne.mpr c28
         have c28b1 : (t277 != 0) = true := bne_iff_ne.mpr c28
         (first | rw [c28b0] | (simp only [i64_w, i32_w]; rw [c28b0]) | skip)
         by_cases c29 : (t293 == t277 && (t294.toList == t278.toList && (t295 == t279 && (t296 == t280)))) = true
         ·rw [if_pos c29] at H
          have c29b0 : (t293 == t277 && (t294.toList == t278.toList && (t295 == t279 && (t296 == t280)))) = true := c29
          (try (have c29b1 : decide (t293 = t277 && (t294.toList == t278.toList && (t295 == t279 && (t296 == t280)))) = true := by simpa using c29))
          (try (have c29b2 : (t293 == t277 && (t294.toList == t278.toList && (t295 == t279 && (t296 == t280)))) = true := by simpa using c29))
          clear c29
          by_cases c30 : (t290.length : Int) = 0
          ·rw [if_pos c30] at H
           have c30b0 : ((t290.length : Int) == 0) = true := beq_iff_eq.mpr c30
           have c30b1 : ((t290.length : Int) != 0) = false := bne_eq_false_iff_eq.mpr c30
           clear c30
           replace H := Option.bind_eq_some_iff.mp H
           obtain ⟨t298, A310, H⟩ := H
           replace H : (some t298) = some r := H
           have A31 := Aside0.mk A310
           clear A310
           obtain rfl := Option.some.inj H
           have hnb32 := NB297_281.out
           have hnc32 := NB281_297.out
           have hnb33 := NB297_289.out
           have hnc33 := NB289_297.out
           have hcz34_0 : w23.cell? ⟨gb297, 0, none⟩ = some (.int .i64 0) := (blk_cell BK297.out 0).trans rfl
           have hcz34_1 : w23.cell? ⟨gb297, 1, none⟩ = some (.string (⟨#[]⟩ : ByteArray)) := (blk_cell BK297.out 1).trans rfl
           have hcz34_2 : w23.cell? ⟨gb297, 2, none⟩ = some (.int .i64 0) := (blk_cell BK297.out 2).trans rfl
           have hcz34_3 : w23.cell? ⟨gb297, 3, none⟩ = some (.int .i64 0) := (blk_cell BK297.out 3).trans rfl
           have hfz34_0 := blk_frozen BK297.out 0
           have hfz34_1 := blk_frozen BK297.out 1
           have hfz34_2 := blk_frozen BK297.out 2
           have hfz34_3 := blk_frozen BK297.out 3
           go_wp2_with (first | ((with_reducible refine gate_dst (N := 45) rfl ?_); (try (refine gate_guard (by rfl) ?_; dsimp only)); refine wpList_load_row rfl 26 (.tmp 10) rfl gb297 rfl 26 #[.int .i64 t293, .string t294, .int .i64 t295, .int .i64 t296] (0, 0) _ (by (with_reducible repeat (first | refine blk_drewN ?_ _ | refine blk_drew ?_ | refine blk_alloc ?_ _)); refine blk_put (cs := #[.int .i64 t293, .string t294, .int .i64 t295, .int .i64 0]) ?_ 3 _ rfl; (with_reducible repeat (first | refine blk_drewN ?_ _ | refine blk_drew ?_ | refine blk_alloc ?_ _)); refine blk_put (cs := #[.int .i64 t293, .string t294, .int .i64 0, .int .i64 0]) ?_ 2 _ rfl; (with_reducible repeat (first | refine blk_drewN ?_ _ | refine blk_drew ?_ | refine blk_alloc ?_ _)); refine blk_put (cs := #[.int .i64 t293, .string (⟨#[]⟩ : ByteArray), .int .i64 0, .int .i64 0]) ?_ 1 _ rfl; (with_reducible repeat (first | refine blk_drewN ?_ _ | refine blk_drew ?_ | refine blk_alloc ?_ _)); refine blk_put (cs := #[.int .i64 0, .string (⟨#[]⟩ : ByteArray), .int .i64 0, .int .i64 0]) ?_ 0 _ rfl; (with_reducible repeat (first | refine blk_drewN ?_ _ | refine blk_drew ?_ | refine blk_alloc ?_ _)); exact BK297.out) Try.underlying26 rfl (by kernel_rfl) ?_; have hnb35 := NB281_289.out; have hnc35 := NB289_281.out; have hcz36_0 : w23.cell? ⟨gb281, 0, none⟩ = some (.int .i64 t277) := (blk_cell BK281.out 0).trans rfl; have hcz36_1 : w23.cell? ⟨gb281, 1, none⟩ = some (.string t278) := (blk_cell BK281.out 1).trans rfl; have hcz36_2 : w23.cell? ⟨gb281, 2, none⟩ = some (.int .i64 t279) := (blk_cell BK281.out 2).trans rfl; have hcz36_3 : w23.cell? ⟨gb281, 3, none⟩ = some (.int .i64 t280) := (blk_cell BK281.out 3).trans rfl; have hfz36_0 := blk_frozen BK281.out 0; have hfz36_1 := blk_frozen BK281.out 1; have hfz36_2 := blk_frozen BK281.out 2; have hfz36_3 := blk_frozen BK281.out 3; obtain ⟨Ao37, co37, eo37⟩ := Kd.R_slice HO292.out; subst eo37) | (go_at_call 9; (with_reducible refine (sortilegelaw05_awake.calls kj4  t298 _ ?side1 A31.out).mono ?_); (case side1 => first | (with_reducible exact hs_) | exact Sane.below hs_ (by repeat (first | (with_reducible first | exact HB.out | apply below_alloc | apply pw_below_drewN | apply below_drew1 | refine below_set ?_ GE281.out | refine below_set ?_ GE289.out | refine below_set ?_ GE297.out) | exact HB.out))); rintro e w38 ⟨rfl, hb⟩; have n0_ := Aside0.mk (Kd.R_below (by (with_reducible repeat (first | apply Kd.R_alloc | apply Kd.R_drewN | apply Kd.R_drew)); exact (Kd.R_mono (Kd.R_far (p := ⟨gb297, 3, none⟩) (Kd.R_far (p := ⟨gb297, 2, none⟩) (Kd.R_far (p := ⟨gb297, 1, none⟩) (Kd.R_far (p := ⟨gb297, 0, none⟩) (Kd.R_types HO276.out BK297.out (by decide)) (fun _ hk => hk.2) (.int .i64 t293)) (fun _ hk => hk.2) (.string t294)) (fun _ hk => hk.2) (.int .i64 t295)) (fun _ hk => hk.2) (.int .i64 t296)) (fun _ h_ => h_.1))) hb); have n1_ := Aside0.mk (Kd.R_below (by (with_reducible repeat (first | apply Kd.R_alloc | apply Kd.R_drewN | apply Kd.R_drew)); exact (Kd.R_mono (Kd.R_far (p := ⟨gb297, 3, none⟩) (Kd.R_far (p := ⟨gb297, 2, none⟩) (Kd.R_far (p := ⟨gb297, 1, none⟩) (Kd.R_far (p := ⟨gb297, 0, none⟩) (Kd.R_types HO284.out BK297.out (by decide)) (fun _ hk => hk.2) (.int .i64 t293)) (fun _ hk => hk.2) (.string t294)) (fun _ hk => hk.2) (.int .i64 t295)) (fun _ hk => hk.2) (.int .i64 t296)) (fun _ h_ => h_.1))) hb); have n2_ := Aside0.mk (Kd.R_below (by (with_reducible repeat (first | apply Kd.R_alloc | apply Kd.R_drewN | apply Kd.R_drew)); exact (Kd.R_mono (Kd.R_far (p := ⟨gb297, 3, none⟩) (Kd.R_far (p := ⟨gb297, 2, none⟩) (Kd.R_far (p := ⟨gb297, 1, none⟩) (Kd.R_far (p := ⟨gb297, 0, none⟩) (Kd.R_types HO292.out BK297.out (by decide)) (fun _ hk => hk.2) (.int .i64 t293)) (fun _ hk => hk.2) (.string t294)) (fun _ hk => hk.2) (.int .i64 t295)) (fun _ hk => hk.2) (.int .i64 t296)) (fun _ h_ => h_.1))) hb); have n3_ := Aside0.mk (blk_below (g := gb281) (o := .cells #[.int .i64 t277, .string t278, .int .i64 t279, .int .i64 t280] 26 (0, 0)) (by (with_reducible repeat (first | refine blk_drewN ?_ _ | refine blk_drew ?_ | refine blk_alloc ?_ _)); refine blk_far ?_ NB281_297.out _; (with_reducible repeat (first | refine blk_drewN ?_ _ | refine blk_drew ?_ | refine blk_alloc ?_ _)); refine blk_far ?_ NB281_297.out _; (with_reducible repeat (first | refine blk_drewN ?_ _ | refine blk_drew ?_ | refine blk_alloc ?_ _)); refine blk_far ?_ NB281_297.out _; (with_reducible repeat (first | refine blk_drewN ?_ _ | refine blk_drew ?_ | refine blk_alloc ?_ _)); refine blk_far ?_ NB281_297.out _; (with_reducible repeat (first | refine blk_drewN ?_ _ | refine blk_drew ?_ | refine blk_alloc ?_ _)); exact BK281.out) hb); have n4_ := Aside0.mk (blk_below (g := gb289) (o := .cells #[.int .i64 t285, .string t286, .int .i64 t287, .int .i64 t288] 26 (0, 0)) (by (with_reducible repeat (first | refine blk_drewN ?_ _ | refine blk_drew ?_ | refine blk_alloc ?_ _)); refine blk_far ?_ NB289_297.out _; (with_reducible repeat (first | refine blk_drewN ?_ _ | refine blk_drew ?_ | refine blk_alloc ?_ _)); refine blk_far ?_ NB289_297.out _; (with_reducible repeat (first | refine blk_drewN ?_ _ | refine blk_drew ?_ | refine blk_alloc ?_ _)); refine blk_far ?_ NB289_297.out _; (with_reducible repeat (first | refine blk_drewN ?_ _ | refine blk_drew ?_ | refine blk_alloc ?_ _)); refine blk_far ?_ NB289_297.out _; (with_reducible repeat (first | refine blk_drewN ?_ _ | refine blk_drew ?_ | refine blk_alloc ?_ _)); exact BK289.out) hb); have n5_ := Aside0.mk (blk_below (g := gb297) (o := .cells #[.int .i64 t293, .string t294, .int .i64 t295, .int .i64 t296] 26 (0, 0)) (by (with_reducible repeat (first | refine blk_drewN ?_ _ | refine blk_drew ?_ | refine blk_alloc ?_ _)); refine blk_put (cs := #[.int .i64 t293, .string t294, .int .i64 t295, .int .i64 0]) ?_ 3 _ rfl; (with_reducible repeat (first | refine blk_drewN ?_ _ | refine blk_drew ?_ | refine blk_alloc ?_ _)); refine blk_put (cs := #[.int .i64 t293, .string t294, .int .i64 0, .int .i64 0]) ?_ 2 _ rfl; (with_reducible repeat (first | refine blk_drewN ?_ _ | refine blk_drew ?_ | refine blk_alloc ?_ _)); refine blk_put (cs := #[.int .i64 t293, .string (⟨#[]⟩ : ByteArray), .int .i64 0, .int .i64 0]) ?_ 1 _ rfl; (with_reducible repeat (first | refine blk_drewN ?_ _ | refine blk_drew ?_ | refine blk_alloc ?_ _)); refine blk_put (cs := #[.int .i64 0, .string (⟨#[]⟩ : ByteArray), .int .i64 0, .int .i64 0]) ?_ 0 _ rfl; (with_reducible repeat (first | refine blk_drewN ?_ _ | refine blk_drew ?_ | refine blk_alloc ?_ _)); exact BK297.out) hb); have n6_ := Aside0.mk (below_step (by repeat (first | (with_reducible first | exact HB.out | apply below_alloc | apply pw_below_drewN | apply below_drew1 | refine below_set ?_ GE281.out | refine below_set ?_ GE289.out | refine below_set ?_ GE297.out) | exact HB.out)) hb); clear HO276; clear HO284; clear HO292; clear BK281; clear BK289; clear BK297; clear HB; have HO276 := n0_; have HO284 := n1_; have HO292 := n2_; have BK281 := n3_; have BK289 := n4_; have BK297 := n5_; have HB := n6_; clear n0_ n1_ n2_ n3_ n4_ n5_ n6_; (try clear hb); (try clear hb2); (try clear hk); (try clear hi)))
           go_ret
           exact ⟨by first | rfl | (simp [errW_none, errW_some] <;> rfl) | (simp [*, errW_none, errW_some] <;> rfl), by repeat (first | (with_reducible first | exact HB.out | apply below_alloc | apply pw_below_drewN | apply below_drew1 | refine below_set ?_ GE281.out | refine below_set ?_ GE289.out | refine below_set ?_ GE297.out) | exact HB.out)⟩
          ·rw [if_neg c30] at H
           have c30b0 : ((t290.length : Int) == 0) = false := beq_eq_false_iff_ne.mpr c30
           have c30b1 : ((t290.length : Int) != 0) = true := bne_iff_ne.mpr c30
           have c30b2 : ¬ (t290 = []) := fun h_ => c30 (by rw [h_]; rfl)
           obtain rfl := Option.some.inj H
           have hnb39 := NB297_281.out
           have hnc39 := NB281_297.out
           have hnb40 := NB297_289.out
           have hnc40 := NB289_297.out
           have hcz41_0 : w23.cell? ⟨gb297, 0, none⟩ = some (.int .i64 0) := (blk_cell BK297.out 0).trans rfl
           have hcz41_1 : w23.cell? ⟨gb297, 1, none⟩ = some (.string (⟨#[]⟩ : ByteArray)) := (blk_cell BK297.out 1).trans rfl
           have hcz41_2 : w23.cell? ⟨gb297, 2, none⟩ = some (.int .i64 0) := (blk_cell BK297.out 2).trans rfl
           have hcz41_3 : w23.cell? ⟨gb297, 3, none⟩ = some (.int .i64 0) := (blk_cell BK297.out 3).trans rfl
           have hfz41_0 := blk_frozen BK297.out 0
           have hfz41_1 := blk_frozen BK297.out 1
           have hfz41_2 := blk_frozen BK297.out 2
           have hfz41_3 := blk_frozen BK297.out 3
           go_wp2_with (first | ((with_reducible refine gate_dst (N := 45) rfl ?_); (try (refine gate_guard (by rfl) ?_; dsimp only)); refine wpList_load_row rfl 26 (.tmp 10) rfl gb297 rfl 26 #[.int .i64 t293, .string t294, .int .i64 t295, .int .i64 t296] (0, 0) _ (by (with_reducible repeat (first | refine blk_drewN ?_ _ | refine blk_drew ?_ | refine blk_alloc ?_ _)); refine blk_put (cs := #[.int .i64 t293, .string t294, .int .i64 t295, .int .i64 0]) ?_ 3 _ rfl; (with_reducible repeat (first | refine blk_drewN ?_ _ | refine blk_drew ?_ | refine blk_alloc ?_ _)); refine blk_put (cs := #[.int .i64 t293, .string t294, .int .i64 0, .int .i64 0]) ?_ 2 _ rfl; (with_reducible repeat (first | refine blk_drewN ?_ _ | refine blk_drew ?_ | refine blk_alloc ?_ _)); refine blk_put (cs := #[.int .i64 t293, .string (⟨#[]⟩ : ByteArray), .int .i64 0, .int .i64 0]) ?_ 1 _ rfl; (with_reducible repeat (first | refine blk_drewN ?_ _ | refine blk_drew ?_ | refine blk_alloc ?_ _)); refine blk_put (cs := #[.int .i64 0, .string (⟨#[]⟩ : ByteArray), .int .i64 0, .int .i64 0]) ?_ 0 _ rfl; (with_reducible repeat (first | refine blk_drewN ?_ _ | refine blk_drew ?_ | refine blk_alloc ?_ _)); exact BK297.out) Try.underlying26 rfl (by kernel_rfl) ?_; have hnb42 := NB281_289.out; have hnc42 := NB289_281.out; have hcz43_0 : w23.cell? ⟨gb281, 0, none⟩ = some (.int .i64 t277) := (blk_cell BK281.out 0).trans rfl; have hcz43_1 : w23.cell? ⟨gb281, 1, none⟩ = some (.string t278) := (blk_cell BK281.out 1).trans rfl; have hcz43_2 : w23.cell? ⟨gb281, 2, none⟩ = some (.int .i64 t279) := (blk_cell BK281.out 2).trans rfl; have hcz43_3 : w23.cell? ⟨gb281, 3, none⟩ = some (.int .i64 t280) := (blk_cell BK281.out 3).trans rfl; have hfz43_0 := blk_frozen BK281.out 0; have hfz43_1 := blk_frozen BK281.out 1; have hfz43_2 := blk_frozen BK281.out 2; have hfz43_3 := blk_frozen BK281.out 3; obtain ⟨Ao44, co44, eo44⟩ := Kd.R_slice HO292.out; subst eo44))
           go_ret
           exact ⟨by first | rfl | (simp [errW_none, errW_some] <;> rfl) | (simp [*, errW_none, errW_some] <;> rfl), by repeat (first | (with_reducible first | exact HB.out | apply below_alloc | apply pw_below_drewN | apply below_drew1 | refine below_set ?_ GE281.out | refine below_set ?_ GE289.out | refine below_set ?_ GE297.out) | exact HB.out)⟩
         ·rw [if_neg c29] at H
          have c29b0 : (t293 == t277 && (t294.toList == t278.toList && (t295 == t279 && (t296 == t280)))) = false := by simpa using c29
          (try (have c29b1 : decide (t293 = t277 && (t294.toList == t278.toList && (t295 == t279 && (t296 == t280)))) = false := by simpa using c29))
          (try (have c29b2 : (t293 == t277 && (t294.toList == t278.toList && (t295 == t279 && (t296 == t280)))) = false := by simpa using c29))
          (try (have c29b3 : ¬ (t293 = t277 && (t294.toList == t278.toList && (t295 == t279 && (t296 == t280)))) := by simpa using c29))
          clear c29
          obtain rfl := Option.some.inj H
          have hnb45 := NB297_281.out
          have hnc45 := NB281_297.out
          have hnb46 := NB297_289.out
          have hnc46 := NB289_297.out
          have hcz47_0 : w23.cell? ⟨gb297, 0, none⟩ = some (.int .i64 0) := (blk_cell BK297.out 0).trans rfl
          have hcz47_1 : w23.cell? ⟨gb297, 1, none⟩ = some (.string (⟨#[]⟩ : ByteArray)) := (blk_cell BK297.out 1).trans rfl
          have hcz47_2 : w23.cell? ⟨gb297, 2, none⟩ = some (.int .i64 0) := (blk_cell BK297.out 2).trans rfl
          have hcz47_3 : w23.cell? ⟨gb297, 3, none⟩ = some (.int .i64 0) := (blk_cell BK297.out 3).trans rfl
          have hfz47_0 := blk_frozen BK297.out 0
          have hfz47_1 := blk_frozen BK297.out 1
          have hfz47_2 := blk_frozen BK297.out 2
          have hfz47_3 := blk_frozen BK297.out 3
          go_wp2_with (first | ((with_reducible refine gate_dst (N := 45) rfl ?_); (try (refine gate_guard (by rfl) ?_; dsimp only)); refine wpList_load_row rfl 26 (.tmp 10) rfl gb297 rfl 26 #[.int .i64 t293, .string t294, .int .i64 t295, .int .i64 t296] (0, 0) _ (by (with_reducible repeat (first | refine blk_drewN ?_ _ | refine blk_drew ?_ | refine blk_alloc ?_ _)); refine blk_put (cs := #[.int .i64 t293, .string t294, .int .i64 t295, .int .i64 0]) ?_ 3 _ rfl; (with_reducible repeat (first | refine blk_drewN ?_ _ | refine blk_drew ?_ | refine blk_alloc ?_ _)); refine blk_put (cs := #[.int .i64 t293, .string t294, .int .i64 0, .int .i64 0]) ?_ 2 _ rfl; (with_reducible repeat (first | refine blk_drewN ?_ _ | refine blk_drew ?_ | refine blk_alloc ?_ _)); refine blk_put (cs := #[.int .i64 t293, .string (⟨#[]⟩ : ByteArray), .int .i64 0, .int .i64 0]) ?_ 1 _ rfl; (with_reducible repeat (first | refine blk_drewN ?_ _ | refine blk_drew ?_ | refine blk_alloc ?_ _)); refine blk_put (cs := #[.int .i64 0, .string (⟨#[]⟩ : ByteArray), .int .i64 0, .int .i64 0]) ?_ 0 _ rfl; (with_reducible repeat (first | refine blk_drewN ?_ _ | refine blk_drew ?_ | refine blk_alloc ?_ _)); exact BK297.out) Try.underlying26 rfl (by kernel_rfl) ?_; have hnb48 := NB281_289.out; have hnc48 := NB289_281.out; have hcz49_0 : w23.cell? ⟨gb281, 0, none⟩ = some (.int .i64 t277) := (blk_cell BK281.out 0).trans rfl; have hcz49_1 : w23.cell? ⟨gb281, 1, none⟩ = some (.string t278) := (blk_cell BK281.out 1).trans rfl; have hcz49_2 : w23.cell? ⟨gb281, 2, none⟩ = some (.int .i64 t279) := (blk_cell BK281.out 2).trans rfl; have hcz49_3 : w23.cell? ⟨gb281, 3, none⟩ = some (.int .i64 t280) := (blk_cell BK281.out 3).trans rfl; have hfz49_0 := blk_frozen BK281.out 0; have hfz49_1 := blk_frozen BK281.out 1; have hfz49_2 := blk_frozen BK281.out 2; have hfz49_3 := blk_frozen BK281.out 3))
          go_ret
          exact ⟨by first | rfl | (simp [errW_none, errW_some] <;> rfl) | (simp [*, errW_none, errW_some] <;> rfl), by repeat (first | (with_reducible first | exact HB.out | apply below_alloc | apply pw_below_drewN | apply below_drew1 | refine below_set ?_ GE281.out | refine below_set ?_ GE289.out | refine below_set ?_ GE297.out) | exact HB.out)⟩
       case rest =>
        clear HC14
        (try clear c1); (try clear c2); (try clear p2); (try clear c3); (try clear c4); (try clear c4b0); (try clear c4b1); (try clear c6); (try clear c9); (try clear c9b0); (try clear c9b1); (try clear c9b2); (try clear c12); (try clear c12b0); (try clear c12b1); (try clear c12b2); (try clear c20); (try clear c24); (try clear c25); (try clear c28); (try clear c28b0); (try clear c28b1); (try clear c29); (try clear c29b0); (try clear c29b1); (try clear c29b2); (try clear c30); (try clear c30b0); (try clear c30b1); (try clear c30b2); (try clear c32); (try clear c33); (try clear c35); (try clear c39); (try clear c40); (try clear c42); (try clear c45); (try clear c46); (try clear c48); (try clear hcz17_0); (try clear hcz17_1); (try clear hcz17_2); (try clear hcz17_3); (try clear hcz21_0); (try clear hcz21_1); (try clear hcz21_2); (try clear hcz21_3); (try clear hcz26_0); (try clear hcz26_1); (try clear hcz26_2); (try clear hcz26_3); (try clear hcz27_0); (try clear hcz27_1); (try clear hcz27_2); (try clear hcz27_3); (try clear hcz34_0); (try clear hcz34_1); (try clear hcz34_2); (try clear hcz34_3); (try clear hcz36_0); (try clear hcz36_1); (try clear hcz36_2); (try clear hcz36_3); (try clear hcz41_0); (try clear hcz41_1); (try clear hcz41_2); (try clear hcz41_3); (try clear hcz43_0); (try clear hcz43_1); (try clear hcz43_2); (try clear hcz43_3); (try clear hcz47_0); (try clear hcz47_1); (try clear hcz47_2); (try clear hcz47_3); (try clear hcz49_0); (try clear hcz49_1); (try clear hcz49_2); (try clear hcz49_3); (try clear hfz17_0); (try clear hfz17_1); (try clear hfz17_2); (try clear hfz17_3); (try clear hfz21_0); (try clear hfz21_1); (try clear hfz21_2); (try clear hfz21_3); (try clear hfz26_0); (try clear hfz26_1); (try clear hfz26_2); (try clear hfz26_3); (try clear hfz27_0); (try clear hfz27_1); (try clear hfz27_2); (try clear hfz27_3); (try clear hfz34_0); (try clear hfz34_1); (try clear hfz34_2); (try clear hfz34_3); (try clear hfz36_0); (try clear hfz36_1); (try clear hfz36_2); (try clear hfz36_3); (try clear hfz41_0); (try clear hfz41_1); (try clear hfz41_2); (try clear hfz41_3); (try clear hfz43_0); (try clear hfz43_1); (try clear hfz43_2); (try clear hfz43_3); (try clear hfz47_0); (try clear hfz47_1); (try clear hfz47_2); (try clear hfz47_3); (try clear hfz49_0); (try clear hfz49_1); (try clear hfz49_2); (try clear hfz49_3)
        obtain ⟨kq, HA, HJ13, HO_5, HO_7, HO_9, BK281, BK289, BK297, HB⟩ := hcut
        cases kq with
        | zero => exact absurd HA.out (by simp [sortilegelaw05_LexerLines.j2])
        | succ kj13 =>
         have H := HA.out
         clear HA
         simp only [sortilegelaw05_LexerLines.j2] at H
         replace H := Option.bind_eq_some_iff.mp H
         obtain ⟨t299, A500, H⟩ := H
         replace H : (if t285 = 0 then (sortilegelaw05_LexerLines.j3 kj13 t274 t282 t290 t299 t293 t294 t295 t296) else (if (t293 == t285 && (t294.toList == t286.toList && (t295 == (wrap64 (t287 + t299)) && (t296 == t288)))) = true then (if (t290.length : Int) = 0 then ((sortilegelaw05_awake.f kj13).bind fun t300 => (some t300)) else (some false)) else (some false))) = some r := H
         have A50 := Aside0.mk A500
         clear A500
         have HC51 := Aside0.mk H
         clear H
         go_upto_if 60 with (first | (go_at_call 16; (with_reducible refine (sortilegelaw05_lines.calls kj13 (a0 ++ (⟨#[10]⟩ : ByteArray)) t299 _ A50.out).mono ?_); rintro e w' ⟨rfl, ⟨nd, rfl⟩⟩; (try first | exact ⟨rfl, _, World.drewN_drewN _ _ _⟩ | exact ⟨rfl, _, Eq.trans (World.drewN_drewN _ _ _) (congrArg (World.drewN _) (Nat.add_assoc _ _ _))⟩); have hnb52 := NB289_281.out; have hnc52 := NB281_289.out; have hnb53 := NB289_297.out; have hnc53 := NB297_289.out; have hcz54_0 : wc.cell? ⟨gb289, 0, none⟩ = some (.int .i64 t285) := (blk_cell BK289.out 0).trans rfl; have hcz54_1 : wc.cell? ⟨gb289, 1, none⟩ = some (.string t286) := (blk_cell BK289.out 1).trans rfl; have hcz54_2 : wc.cell? ⟨gb289, 2, none⟩ = some (.int .i64 t287) := (blk_cell BK289.out 2).trans rfl; have hcz54_3 : wc.cell? ⟨gb289, 3, none⟩ = some (.int .i64 t288) := (blk_cell BK289.out 3).trans rfl; have hfz54_0 := blk_frozen BK289.out 0; have hfz54_1 := blk_frozen BK289.out 1; have hfz54_2 := blk_frozen BK289.out 2; have hfz54_3 := blk_frozen BK289.out 3))
         (try simp only [Act.put, List.setIfInBounds_toArray, List.set_cons_zero, List.set_cons_succ])
         go_cut [] (fun wc => ∃ (kq : Nat) (x290002_50 : Int), Aside0 (sortilegelaw05_LexerLines.j3 kq t274 t282 t290 t299 t293 t294 t295 t296 = some r) ∧ Aside0 (kq ≤ kj13) ∧ Aside0 (Kd.R k36 36 wc w.heap.size (fun k_ => some k_ ≠ (v283 : Value).ownBlock ∧ some k_ ≠ (v291 : Value).ownBlock) v275 t274) ∧ Aside0 (Kd.R k36 36 wc w.heap.size (fun k_ => some k_ ≠ (v275 : Value).ownBlock ∧ some k_ ≠ (v291 : Value).ownBlock) v283 t282) ∧ Aside0 (Kd.R k36 36 wc w.heap.size (fun k_ => some k_ ≠ (v275 : Value).ownBlock ∧ some k_ ≠ (v283 : Value).ownBlock) v291 t290) ∧ Aside0 (wc.heap[gb281]? = some (.cells #[.int .i64 t277, .string t278, .int .i64 t279, .int .i64 t280] 26 (0, 0))) ∧ Aside0 (wc.heap[gb289]? = some (.cells #[.int .i64 t285, .string t286, .int .i64 x290002_50, .int .i64 t288] 26 (0, 0))) ∧ Aside0 (wc.heap[gb297]? = some (.cells #[.int .i64 t293, .string t294, .int .i64 t295, .int .i64 t296] 26 (0, 0))) ∧ Aside0 (Below w.heap.size w wc))
         case first =>
          have H := HC51.out
          clear HC51
          by_cases c55 : t285 = 0
          ·rw [if_pos c55] at H
           have c55b0 : (t285 == 0) = true := beq_iff_eq.mpr c55
           have c55b1 : (t285 != 0) = false := bne_eq_false_iff_eq.mpr c55
           clear c55
           (first | rw [c55b0] | (simp only [i64_w, i32_w]; rw [c55b0]) | skip)
           have H' := Aside0.mk H
           clear H
           go_wp2
           go_meet
           case rel => exact ⟨_, (t287), H', ⟨by have := HJ2.out; have := HJ4.out; have := HJ13.out; first | omega | exact Nat.le_refl _⟩, ⟨by (with_reducible repeat (first | apply Kd.R_alloc | apply Kd.R_drewN | apply Kd.R_drew)); exact HO_5.out⟩, ⟨by (with_reducible repeat (first | apply Kd.R_alloc | apply Kd.R_drewN | apply Kd.R_drew)); exact HO_7.out⟩, ⟨by (with_reducible repeat (first | apply Kd.R_alloc | apply Kd.R_drewN | apply Kd.R_drew)); exact HO_9.out⟩, ⟨by (with_reducible repeat (first | refine blk_drewN ?_ _ | refine blk_drew ?_ | refine blk_alloc ?_ _)); exact BK281.out⟩, ⟨by (with_reducible repeat (first | refine blk_drewN ?_ _ | refine blk_drew ?_ | refine blk_alloc ?_ _)); exact BK289.out⟩, ⟨by (with_reducible repeat (first | refine blk_drewN ?_ _ | refine blk_drew ?_ | refine blk_alloc ?_ _)); exact BK297.out⟩, ⟨by repeat (first | (with_reducible first | exact HB.out | apply below_alloc | apply pw_below_drewN | apply below_drew1 | refine below_set ?_ GE281.out | refine below_set ?_ GE289.out | refine below_set ?_ GE297.out) | exact HB.out)⟩⟩
          ·rw [if_neg c55] at H
           have c55b0 : (t285 == 0) = false := beq_eq_false_iff_ne.mpr c55
           have c55b1 : (t285 != 0) = true := bne_iff_ne.mpr c55
           (first | rw [c55b0] | (simp only [i64_w, i32_w]; rw [c55b0]) | skip)
           by_cases c56 : (t293 == t285 && (t294.toList == t286.toList && (t295 == (wrap64 (t287 + t299)) && (t296 == t288)))) = true
           ·rw [if_pos c56] at H
            have c56b0 : (t293 == t285 && (t294.toList == t286.toList && (t295 == (wrap64 (t287 + t299)) && (t296 == t288)))) = true := c56
            (try (have c56b1 : decide (t293 = t285 && (t294.toList == t286.toList && (t295 == (wrap64 (t287 + t299)) && (t296 == t288)))) = true := by simpa using c56))
            (try (have c56b2 : (t293 == t285 && (t294.toList == t286.toList && (t295 == (wrap64 (t287 + t299)) && (t296 == t288)))) = true := by simpa using c56))
            clear c56
            by_cases c57 : (t290.length : Int) = 0
            ·rw [if_pos c57] at H
             have c57b0 : ((t290.length : Int) == 0) = true := beq_iff_eq.mpr c57
             have c57b1 : ((t290.length : Int) != 0) = false := bne_eq_false_iff_eq.mpr c57
             clear c57
             replace H := Option.bind_eq_some_iff.mp H
             obtain ⟨t300, A580, H⟩ := H
             replace H : (some t300) = some r := H
             have A58 := Aside0.mk A580
             clear A580
             obtain rfl := Option.some.inj H
             have hnb59 := NB289_281.out
             have hnc59 := NB281_289.out
             have hnb60 := NB289_297.out
             have hnc60 := NB297_289.out
             have hcz61_0 : wc.cell? ⟨gb289, 0, none⟩ = some (.int .i64 t285) := (blk_cell BK289.out 0).trans rfl
             have hcz61_1 : wc.cell? ⟨gb289, 1, none⟩ = some (.string t286) := (blk_cell BK289.out 1).trans rfl
             have hcz61_2 : wc.cell? ⟨gb289, 2, none⟩ = some (.int .i64 t287) := (blk_cell BK289.out 2).trans rfl
             have hcz61_3 : wc.cell? ⟨gb289, 3, none⟩ = some (.int .i64 t288) := (blk_cell BK289.out 3).trans rfl
             have hfz61_0 := blk_frozen BK289.out 0
             have hfz61_1 := blk_frozen BK289.out 1
             have hfz61_2 := blk_frozen BK289.out 2
             have hfz61_3 := blk_frozen BK289.out 3
             have hnb62 := NB297_281.out
             have hnc62 := NB281_297.out
             have hcz63_0 : wc.cell? ⟨gb297, 0, none⟩ = some (.int .i64 t293) := (blk_cell BK297.out 0).trans rfl
             have hcz63_1 : wc.cell? ⟨gb297, 1, none⟩ = some (.string t294) := (blk_cell BK297.out 1).trans rfl
             have hcz63_2 : wc.cell? ⟨gb297, 2, none⟩ = some (.int .i64 t295) := (blk_cell BK297.out 2).trans rfl
             have hcz63_3 : wc.cell? ⟨gb297, 3, none⟩ = some (.int .i64 t296) := (blk_cell BK297.out 3).trans rfl
             have hfz63_0 := blk_frozen BK297.out 0
             have hfz63_1 := blk_frozen BK297.out 1
             have hfz63_2 := blk_frozen BK297.out 2
             have hfz63_3 := blk_frozen BK297.out 3
             go_wp2_with (first | ((with_reducible refine gate_dst (N := 67) rfl ?_); (try (refine gate_guard (by rfl) ?_; dsimp only)); refine wpList_load_row rfl 26 (.tmp 8) rfl gb289 rfl 26 #[.int .i64 t285, .string t286, .int .i64 (wrap64 (t287 + t299)), .int .i64 t288] (0, 0) _ (by (with_reducible repeat (first | refine blk_drewN ?_ _ | refine blk_drew ?_ | refine blk_alloc ?_ _)); refine blk_put (cs := #[.int .i64 t285, .string t286, .int .i64 t287, .int .i64 t288]) ?_ 2 _ rfl; (with_reducible repeat (first | refine blk_drewN ?_ _ | refine blk_drew ?_ | refine blk_alloc ?_ _)); exact BK289.out) Try.underlying26 rfl (by kernel_rfl) ?_; obtain ⟨Ao64, co64, eo64⟩ := Kd.R_slice HO_9.out; subst eo64) | (go_at_call 9; (with_reducible refine (sortilegelaw05_awake.calls kj13  t300 _ ?side1 A58.out).mono ?_); (case side1 => first | (with_reducible exact hs_) | exact Sane.below hs_ (by repeat (first | (with_reducible first | exact HB.out | apply below_alloc | apply pw_below_drewN | apply below_drew1 | refine below_set ?_ GE281.out | refine below_set ?_ GE289.out | refine below_set ?_ GE297.out) | exact HB.out))); rintro e w65 ⟨rfl, hb⟩; have n0_ := Aside0.mk (Kd.R_below (by (with_reducible repeat (first | apply Kd.R_alloc | apply Kd.R_drewN | apply Kd.R_drew)); exact (Kd.R_mono (Kd.R_far (p := ⟨gb289, 2, none⟩) (Kd.R_types HO_5.out BK289.out (by decide)) (fun _ hk => hk.2) (.int .i64 (wrap64 (t287 + t299)))) (fun _ h_ => h_.1))) hb); have n1_ := Aside0.mk (Kd.R_below (by (with_reducible repeat (first | apply Kd.R_alloc | apply Kd.R_drewN | apply Kd.R_drew)); exact (Kd.R_mono (Kd.R_far (p := ⟨gb289, 2, none⟩) (Kd.R_types HO_7.out BK289.out (by decide)) (fun _ hk => hk.2) (.int .i64 (wrap64 (t287 + t299)))) (fun _ h_ => h_.1))) hb); have n2_ := Aside0.mk (Kd.R_below (by (with_reducible repeat (first | apply Kd.R_alloc | apply Kd.R_drewN | apply Kd.R_drew)); exact (Kd.R_mono (Kd.R_far (p := ⟨gb289, 2, none⟩) (Kd.R_types HO_9.out BK289.out (by decide)) (fun _ hk => hk.2) (.int .i64 (wrap64 (t287 + t299)))) (fun _ h_ => h_.1))) hb); have n3_ := Aside0.mk (blk_below (g := gb281) (o := .cells #[.int .i64 t277, .string t278, .int .i64 t279, .int .i64 t280] 26 (0, 0)) (by (with_reducible repeat (first | refine blk_drewN ?_ _ | refine blk_drew ?_ | refine blk_alloc ?_ _)); refine blk_far ?_ NB281_289.out _; (with_reducible repeat (first | refine blk_drewN ?_ _ | refine blk_drew ?_ | refine blk_alloc ?_ _)); exact BK281.out) hb); have n4_ := Aside0.mk (blk_below (g := gb289) (o := .cells #[.int .i64 t285, .string t286, .int .i64 (wrap64 (t287 + t299)), .int .i64 t288] 26 (0, 0)) (by (with_reducible repeat (first | refine blk_drewN ?_ _ | refine blk_drew ?_ | refine blk_alloc ?_ _)); refine blk_put (cs := #[.int .i64 t285, .string t286, .int .i64 t287, .int .i64 t288]) ?_ 2 _ rfl; (with_reducible repeat (first | refine blk_drewN ?_ _ | refine blk_drew ?_ | refine blk_alloc ?_ _)); exact BK289.out) hb); have n5_ := Aside0.mk (blk_below (g := gb297) (o := .cells #[.int .i64 t293, .string t294, .int .i64 t295, .int .i64 t296] 26 (0, 0)) (by (with_reducible repeat (first | refine blk_drewN ?_ _ | refine blk_drew ?_ | refine blk_alloc ?_ _)); refine blk_far ?_ NB297_289.out _; (with_reducible repeat (first | refine blk_drewN ?_ _ | refine blk_drew ?_ | refine blk_alloc ?_ _)); exact BK297.out) hb); have n6_ := Aside0.mk (below_step (by repeat (first | (with_reducible first | exact HB.out | apply below_alloc | apply pw_below_drewN | apply below_drew1 | refine below_set ?_ GE281.out | refine below_set ?_ GE289.out | refine below_set ?_ GE297.out) | exact HB.out)) hb); clear HO_5; clear HO_7; clear HO_9; clear BK281; clear BK289; clear BK297; clear HB; have HO_5 := n0_; have HO_7 := n1_; have HO_9 := n2_; have BK281 := n3_; have BK289 := n4_; have BK297 := n5_; have HB := n6_; clear n0_ n1_ n2_ n3_ n4_ n5_ n6_; (try clear hb); (try clear hb2); (try clear hk); (try clear hi)))
             go_ret
             exact ⟨by first | rfl | (simp [errW_none, errW_some] <;> rfl) | (simp [*, errW_none, errW_some] <;> rfl), by repeat (first | (with_reducible first | exact HB.out | apply below_alloc | apply pw_below_drewN | apply below_drew1 | refine below_set ?_ GE281.out | refine below_set ?_ GE289.out | refine below_set ?_ GE297.out) | exact HB.out)⟩
            ·rw [if_neg c57] at H
             have c57b0 : ((t290.length : Int) == 0) = false := beq_eq_false_iff_ne.mpr c57
             have c57b1 : ((t290.length : Int) != 0) = true := bne_iff_ne.mpr c57
             have c57b2 : ¬ (t290 = []) := fun h_ => c57 (by rw [h_]; rfl)
             obtain rfl := Option.some.inj H
             have hnb66 := NB289_281.out
             have hnc66 := NB281_289.out
             have hnb67 := NB289_297.out
             have hnc67 := NB297_289.out
             have hcz68_0 : wc.cell? ⟨gb289, 0, none⟩ = some (.int .i64 t285) := (blk_cell BK289.out 0).trans rfl
             have hcz68_1 : wc.cell? ⟨gb289, 1, none⟩ = some (.string t286) := (blk_cell BK289.out 1).trans rfl
             have hcz68_2 : wc.cell? ⟨gb289, 2, none⟩ = some (.int .i64 t287) := (blk_cell BK289.out 2).trans rfl
             have hcz68_3 : wc.cell? ⟨gb289, 3, none⟩ = some (.int .i64 t288) := (blk_cell BK289.out 3).trans rfl
             have hfz68_0 := blk_frozen BK289.out 0
             have hfz68_1 := blk_frozen BK289.out 1
             have hfz68_2 := blk_frozen BK289.out 2
             have hfz68_3 := blk_frozen BK289.out 3
             have hnb69 := NB297_281.out
             have hnc69 := NB281_297.out
             have hcz70_0 : wc.cell? ⟨gb297, 0, none⟩ = some (.int .i64 t293) := (blk_cell BK297.out 0).trans rfl
             have hcz70_1 : wc.cell? ⟨gb297, 1, none⟩ = some (.string t294) := (blk_cell BK297.out 1).trans rfl
             have hcz70_2 : wc.cell? ⟨gb297, 2, none⟩ = some (.int .i64 t295) := (blk_cell BK297.out 2).trans rfl
             have hcz70_3 : wc.cell? ⟨gb297, 3, none⟩ = some (.int .i64 t296) := (blk_cell BK297.out 3).trans rfl
             have hfz70_0 := blk_frozen BK297.out 0
             have hfz70_1 := blk_frozen BK297.out 1
             have hfz70_2 := blk_frozen BK297.out 2
             have hfz70_3 := blk_frozen BK297.out 3
             go_wp2_with (first | ((with_reducible refine gate_dst (N := 67) rfl ?_); (try (refine gate_guard (by rfl) ?_; dsimp only)); refine wpList_load_row rfl 26 (.tmp 8) rfl gb289 rfl 26 #[.int .i64 t285, .string t286, .int .i64 (wrap64 (t287 + t299)), .int .i64 t288] (0, 0) _ (by (with_reducible repeat (first | refine blk_drewN ?_ _ | refine blk_drew ?_ | refine blk_alloc ?_ _)); refine blk_put (cs := #[.int .i64 t285, .string t286, .int .i64 t287, .int .i64 t288]) ?_ 2 _ rfl; (with_reducible repeat (first | refine blk_drewN ?_ _ | refine blk_drew ?_ | refine blk_alloc ?_ _)); exact BK289.out) Try.underlying26 rfl (by kernel_rfl) ?_; obtain ⟨Ao71, co71, eo71⟩ := Kd.R_slice HO_9.out; subst eo71))
             go_ret
             exact ⟨by first | rfl | (simp [errW_none, errW_some] <;> rfl) | (simp [*, errW_none, errW_some] <;> rfl), by repeat (first | (with_reducible first | exact HB.out | apply below_alloc | apply pw_below_drewN | apply below_drew1 | refine below_set ?_ GE281.out | refine below_set ?_ GE289.out | refine below_set ?_ GE297.out) | exact HB.out)⟩
           ·rw [if_neg c56] at H
            have c56b0 : (t293 == t285 && (t294.toList == t286.toList && (t295 == (wrap64 (t287 + t299)) && (t296 == t288)))) = false := by simpa using c56
            (try (have c56b1 : decide (t293 = t285 && (t294.toList == t286.toList && (t295 == (wrap64 (t287 + t299)) && (t296 == t288)))) = false := by simpa using c56))
            (try (have c56b2 : (t293 == t285 && (t294.toList == t286.toList && (t295 == (wrap64 (t287 + t299)) && (t296 == t288)))) = false := by simpa using c56))
            (try (have c56b3 : ¬ (t293 = t285 && (t294.toList == t286.toList && (t295 == (wrap64 (t287 + t299)) && (t296 == t288)))) := by simpa using c56))
            clear c56
            obtain rfl := Option.some.inj H
            have hnb72 := NB289_281.out
            have hnc72 := NB281_289.out
            have hnb73 := NB289_297.out
            have hnc73 := NB297_289.out
            have hcz74_0 : wc.cell? ⟨gb289, 0, none⟩ = some (.int .i64 t285) := (blk_cell BK289.out 0).trans rfl
            have hcz74_1 : wc.cell? ⟨gb289, 1, none⟩ = some (.string t286) := (blk_cell BK289.out 1).trans rfl
            have hcz74_2 : wc.cell? ⟨gb289, 2, none⟩ = some (.int .i64 t287) := (blk_cell BK289.out 2).trans rfl
            have hcz74_3 : wc.cell? ⟨gb289, 3, none⟩ = some (.int .i64 t288) := (blk_cell BK289.out 3).trans rfl
            have hfz74_0 := blk_frozen BK289.out 0
            have hfz74_1 := blk_frozen BK289.out 1
            have hfz74_2 := blk_frozen BK289.out 2
            have hfz74_3 := blk_frozen BK289.out 3
            have hnb75 := NB297_281.out
            have hnc75 := NB281_297.out
            have hcz76_0 : wc.cell? ⟨gb297, 0, none⟩ = some (.int .i64 t293) := (blk_cell BK297.out 0).trans rfl
            have hcz76_1 : wc.cell? ⟨gb297, 1, none⟩ = some (.string t294) := (blk_cell BK297.out 1).trans rfl
            have hcz76_2 : wc.cell? ⟨gb297, 2, none⟩ = some (.int .i64 t295) := (blk_cell BK297.out 2).trans rfl
            have hcz76_3 : wc.cell? ⟨gb297, 3, none⟩ = some (.int .i64 t296) := (blk_cell BK297.out 3).trans rfl
            have hfz76_0 := blk_frozen BK297.out 0
            have hfz76_1 := blk_frozen BK297.out 1
            have hfz76_2 := blk_frozen BK297.out 2
            have hfz76_3 := blk_frozen BK297.out 3
            go_wp2_with (first | ((with_reducible refine gate_dst (N := 67) rfl ?_); (try (refine gate_guard (by rfl) ?_; dsimp only)); refine wpList_load_row rfl 26 (.tmp 8) rfl gb289 rfl 26 #[.int .i64 t285, .string t286, .int .i64 (wrap64 (t287 + t299)), .int .i64 t288] (0, 0) _ (by (with_reducible repeat (first | refine blk_drewN ?_ _ | refine blk_drew ?_ | refine blk_alloc ?_ _)); refine blk_put (cs := #[.int .i64 t285, .string t286, .int .i64 t287, .int .i64 t288]) ?_ 2 _ rfl; (with_reducible repeat (first | refine blk_drewN ?_ _ | refine blk_drew ?_ | refine blk_alloc ?_ _)); exact BK289.out) Try.underlying26 rfl (by kernel_rfl) ?_))
            go_ret
            exact ⟨by first | rfl | (simp [errW_none, errW_some] <;> rfl) | (simp [*, errW_none, errW_some] <;> rfl), by repeat (first | (with_reducible first | exact HB.out | apply below_alloc | apply pw_below_drewN | apply below_drew1 | refine below_set ?_ GE281.out | refine below_set ?_ GE289.out | refine below_set ?_ GE297.out) | exact HB.out)⟩
         case rest =>
          clear HC51
          (try clear c1); (try clear c2); (try clear p2); (try clear c3); (try clear c4); (try clear c4b0); (try clear c4b1); (try clear c5); (try clear c6); (try clear p6); (try clear c7); (try clear c9); (try clear c9b0); (try clear c9b1); (try clear c9b2); (try clear c12); (try clear c12b0); (try clear c12b1); (try clear c12b2); (try clear c20); (try clear c24); (try clear c25); (try clear c28); (try clear c28b0); (try clear c28b1); (try clear c29); (try clear c29b0); (try clear c29b1); (try clear c29b2); (try clear c30); (try clear c30b0); (try clear c30b1); (try clear c30b2); (try clear c32); (try clear c33); (try clear c35); (try clear c39); (try clear c40); (try clear c42); (try clear c45); (try clear c46); (try clear c48); (try clear c52); (try clear c53); (try clear c55); (try clear c55b0); (try clear c55b1); (try clear c56); (try clear c56b0); (try clear c56b1); (try clear c56b2); (try clear c57); (try clear c57b0); (try clear c57b1); (try clear c57b2); (try clear c59); (try clear c60); (try clear c62); (try clear p64); (try clear c66); (try clear c67); (try clear c69); (try clear c72); (try clear c73); (try clear c75); (try clear hcz17_0); (try clear hcz17_1); (try clear hcz17_2); (try clear hcz17_3); (try clear hcz21_0); (try clear hcz21_1); (try clear hcz21_2); (try clear hcz21_3); (try clear hcz26_0); (try clear hcz26_1); (try clear hcz26_2); (try clear hcz26_3); (try clear hcz27_0); (try clear hcz27_1); (try clear hcz27_2); (try clear hcz27_3); (try clear hcz34_0); (try clear hcz34_1); (try clear hcz34_2); (try clear hcz34_3); (try clear hcz36_0); (try clear hcz36_1); (try clear hcz36_2); (try clear hcz36_3); (try clear hcz41_0); (try clear hcz41_1); (try clear hcz41_2); (try clear hcz41_3); (try clear hcz43_0); (try clear hcz43_1); (try clear hcz43_2); (try clear hcz43_3); (try clear hcz47_0); (try clear hcz47_1); (try clear hcz47_2); (try clear hcz47_3); (try clear hcz49_0); (try clear hcz49_1); (try clear hcz49_2); (try clear hcz49_3); (try clear hcz54_0); (try clear hcz54_1); (try clear hcz54_2); (try clear hcz54_3); (try clear hcz61_0); (try clear hcz61_1); (try clear hcz61_2); (try clear hcz61_3); (try clear hcz63_0); (try clear hcz63_1); (try clear hcz63_2); (try clear hcz63_3); (try clear hcz68_0); (try clear hcz68_1); (try clear hcz68_2); (try clear hcz68_3); (try clear hcz70_0); (try clear hcz70_1); (try clear hcz70_2); (try clear hcz70_3); (try clear hcz74_0); (try clear hcz74_1); (try clear hcz74_2); (try clear hcz74_3); (try clear hcz76_0); (try clear hcz76_1); (try clear hcz76_2); (try clear hcz76_3); (try clear hfz17_0); (try clear hfz17_1); (try clear hfz17_2); (try clear hfz17_3); (try clear hfz21_0); (try clear hfz21_1); (try clear hfz21_2); (try clear hfz21_3); (try clear hfz26_0); (try clear hfz26_1); (try clear hfz26_2); (try clear hfz26_3); (try clear hfz27_0); (try clear hfz27_1); (try clear hfz27_2); (try clear hfz27_3); (try clear hfz34_0); (try clear hfz34_1); (try clear hfz34_2); (try clear hfz34_3); (try clear hfz36_0); (try clear hfz36_1); (try clear hfz36_2); (try clear hfz36_3); (try clear hfz41_0); (try clear hfz41_1); (try clear hfz41_2); (try clear hfz41_3); (try clear hfz43_0); (try clear hfz43_1); (try clear hfz43_2); (try clear hfz43_3); (try clear hfz47_0); (try clear hfz47_1); (try clear hfz47_2); (try clear hfz47_3); (try clear hfz49_0); (try clear hfz49_1); (try clear hfz49_2); (try clear hfz49_3); (try clear hfz54_0); (try clear hfz54_1); (try clear hfz54_2); (try clear hfz54_3); (try clear hfz61_0); (try clear hfz61_1); (try clear hfz61_2); (try clear hfz61_3); (try clear hfz63_0); (try clear hfz63_1); (try clear hfz63_2); (try clear hfz63_3); (try clear hfz68_0); (try clear hfz68_1); (try clear hfz68_2); (try clear hfz68_3); (try clear hfz70_0); (try clear hfz70_1); (try clear hfz70_2); (try clear hfz70_3); (try clear hfz74_0); (try clear hfz74_1); (try clear hfz74_2); (try clear hfz74_3); (try clear hfz76_0); (try clear hfz76_1); (try clear hfz76_2); (try clear hfz76_3)
          obtain ⟨kq, x290002_50, HA, HJ50, HO_5, HO_7, HO_9, BK281, BK289, BK297, HB⟩ := hcut
          cases kq with
          | zero => exact absurd HA.out (by simp [sortilegelaw05_LexerLines.j3])
          | succ kj50 =>
           have H := HA.out
           clear HA
           simp only [sortilegelaw05_LexerLines.j3] at H
           have HC77 := Aside0.mk H
           clear H
           go_upto_region 13 with (fail)
           go_cut [90] (fun v90 wc => ∃ (kq : Nat) (x90_76 : Bool), v90 = .bool x90_76 ∧ Aside0 (sortilegelaw05_LexerLines.j4 kq t274 t282 t290 t299 x90_76 = some r) ∧ Aside0 (kq ≤ kj50) ∧ Aside0 (Kd.R k36 36 wc w.heap.size (fun k_ => some k_ ≠ (v283 : Value).ownBlock ∧ some k_ ≠ (v291 : Value).ownBlock) v275 t274) ∧ Aside0 (Kd.R k36 36 wc w.heap.size (fun k_ => some k_ ≠ (v275 : Value).ownBlock ∧ some k_ ≠ (v291 : Value).ownBlock) v283 t282) ∧ Aside0 (Kd.R k36 36 wc w.heap.size (fun k_ => some k_ ≠ (v275 : Value).ownBlock ∧ some k_ ≠ (v283 : Value).ownBlock) v291 t290) ∧ Aside0 (wc.heap[gb281]? = some (.cells #[.int .i64 t277, .string t278, .int .i64 t279, .int .i64 t280] 26 (0, 0))) ∧ Aside0 (wc.heap[gb289]? = some (.cells #[.int .i64 t285, .string t286, .int .i64 x290002_50, .int .i64 t288] 26 (0, 0))) ∧ Aside0 (wc.heap[gb297]? = some (.cells #[.int .i64 t293, .string t294, .int .i64 t295, .int .i64 t296] 26 (0, 0))) ∧ Aside0 (Below w.heap.size w wc))
           case first =>
            have H := HC77.out
            clear HC77
            by_cases c78 : t293 = 0
            ·rw [if_pos c78] at H
             have c78b0 : (t293 == 0) = true := beq_iff_eq.mpr c78
             have c78b1 : (t293 != 0) = false := bne_eq_false_iff_eq.mpr c78
             clear c78
             (first | rw [c78b0] | (simp only [i64_w, i32_w]; rw [c78b0]) | skip)
             have H' := Aside0.mk H
             clear H
             have hnb79 := NB297_281.out
             have hnc79 := NB281_297.out
             have hnb80 := NB297_289.out
             have hnc80 := NB289_297.out
             have hcz81_0 : wc.cell? ⟨gb297, 0, none⟩ = some (.int .i64 t293) := (blk_cell BK297.out 0).trans rfl
             have hcz81_1 : wc.cell? ⟨gb297, 1, none⟩ = some (.string t294) := (blk_cell BK297.out 1).trans rfl
             have hcz81_2 : wc.cell? ⟨gb297, 2, none⟩ = some (.int .i64 t295) := (blk_cell BK297.out 2).trans rfl
             have hcz81_3 : wc.cell? ⟨gb297, 3, none⟩ = some (.int .i64 t296) := (blk_cell BK297.out 3).trans rfl
             have hfz81_0 := blk_frozen BK297.out 0
             have hfz81_1 := blk_frozen BK297.out 1
             have hfz81_2 := blk_frozen BK297.out 2
             have hfz81_3 := blk_frozen BK297.out 3
             obtain ⟨Ao82, co82, eo82⟩ := Kd.R_slice HO_9.out
             subst eo82
             obtain ⟨Ao83, co83, eo83⟩ := Kd.R_slice HO_5.out
             subst eo83
             obtain ⟨Ao84, co84, eo84⟩ := Kd.R_slice HO_7.out
             subst eo84
             go_wp2
             go_meet
             case rel => exact ⟨_, (((t290.length : Int) != (wrap64 ((wrap64 ((t274.length : Int) - 1)) + (t282.length : Int))))), (by first | rfl | (simp; done) | (simp [*]; done)), H', ⟨by have := HJ2.out; have := HJ4.out; have := HJ13.out; have := HJ50.out; first | omega | exact Nat.le_refl _⟩, ⟨by (with_reducible repeat (first | apply Kd.R_alloc | apply Kd.R_drewN | apply Kd.R_drew)); exact HO_5.out⟩, ⟨by (with_reducible repeat (first | apply Kd.R_alloc | apply Kd.R_drewN | apply Kd.R_drew)); exact HO_7.out⟩, ⟨by (with_reducible repeat (first | apply Kd.R_alloc | apply Kd.R_drewN | apply Kd.R_drew)); exact HO_9.out⟩, ⟨by (with_reducible repeat (first | refine blk_drewN ?_ _ | refine blk_drew ?_ | refine blk_alloc ?_ _)); exact BK281.out⟩, ⟨by (with_reducible repeat (first | refine blk_drewN ?_ _ | refine blk_drew ?_ | refine blk_alloc ?_ _)); exact BK289.out⟩, ⟨by (with_reducible repeat (first | refine blk_drewN ?_ _ | refine blk_drew ?_ | refine blk_alloc ?_ _)); exact BK297.out⟩, ⟨by repeat (first | (with_reducible first | exact HB.out | apply below_alloc | apply pw_below_drewN | apply below_drew1 | refine below_set ?_ GE281.out | refine below_set ?_ GE289.out | refine below_set ?_ GE297.out) | exact HB.out)⟩⟩
            ·rw [if_neg c78] at H
             have c78b0 : (t293 == 0) = false := beq_eq_false_iff_ne.mpr c78
             have c78b1 : (t293 != 0) = true := bne_iff_ne.mpr c78
             (first | rw [c78b0] | (simp only [i64_w, i32_w]; rw [c78b0]) | skip)
             have H' := Aside0.mk H
             clear H
             have hnb85 := NB297_281.out
             have hnc85 := NB281_297.out
             have hnb86 := NB297_289.out
             have hnc86 := NB289_297.out
             have hcz87_0 : wc.cell? ⟨gb297, 0, none⟩ = some (.int .i64 t293) := (blk_cell BK297.out 0).trans rfl
             have hcz87_1 : wc.cell? ⟨gb297, 1, none⟩ = some (.string t294) := (blk_cell BK297.out 1).trans rfl
             have hcz87_2 : wc.cell? ⟨gb297, 2, none⟩ = some (.int .i64 t295) := (blk_cell BK297.out 2).trans rfl
             have hcz87_3 : wc.cell? ⟨gb297, 3, none⟩ = some (.int .i64 t296) := (blk_cell BK297.out 3).trans rfl
             have hfz87_0 := blk_frozen BK297.out 0
             have hfz87_1 := blk_frozen BK297.out 1
             have hfz87_2 := blk_frozen BK297.out 2
             have hfz87_3 := blk_frozen BK297.out 3
             go_wp2
             go_meet
             case rel => exact ⟨_, (true), (by first | rfl | (simp; done) | (simp [*]; done)), H', ⟨by have := HJ2.out; have := HJ4.out; have := HJ13.out; have := HJ50.out; first | omega | exact Nat.le_refl _⟩, ⟨by (with_reducible repeat (first | apply Kd.R_alloc | apply Kd.R_drewN | apply Kd.R_drew)); exact HO_5.out⟩, ⟨by (with_reducible repeat (first | apply Kd.R_alloc | apply Kd.R_drewN | apply Kd.R_drew)); exact HO_7.out⟩, ⟨by (with_reducible repeat (first | apply Kd.R_alloc | apply Kd.R_drewN | apply Kd.R_drew)); exact HO_9.out⟩, ⟨by (with_reducible repeat (first | refine blk_drewN ?_ _ | refine blk_drew ?_ | refine blk_alloc ?_ _)); exact BK281.out⟩, ⟨by (with_reducible repeat (first | refine blk_drewN ?_ _ | refine blk_drew ?_ | refine blk_alloc ?_ _)); exact BK289.out⟩, ⟨by (with_reducible repeat (first | refine blk_drewN ?_ _ | refine blk_drew ?_ | refine blk_alloc ?_ _)); exact BK297.out⟩, ⟨by repeat (first | (with_reducible first | exact HB.out | apply below_alloc | apply pw_below_drewN | apply below_drew1 | refine below_set ?_ GE281.out | refine below_set ?_ GE289.out | refine below_set ?_ GE297.out) | exact HB.out)⟩⟩
           case rest =>
            clear HC77
            (try clear c1); (try clear c2); (try clear p2); (try clear c3); (try clear c4); (try clear c4b0); (try clear c4b1); (try clear c5); (try clear c6); (try clear p6); (try clear c7); (try clear c8); (try clear c9); (try clear c9b0); (try clear c9b1); (try clear c9b2); (try clear c12); (try clear c12b0); (try clear c12b1); (try clear c12b2); (try clear c20); (try clear c24); (try clear c25); (try clear c28); (try clear c28b0); (try clear c28b1); (try clear c29); (try clear c29b0); (try clear c29b1); (try clear c29b2); (try clear c30); (try clear c30b0); (try clear c30b1); (try clear c30b2); (try clear c32); (try clear c33); (try clear c35); (try clear c39); (try clear c40); (try clear c42); (try clear c45); (try clear c46); (try clear c48); (try clear c52); (try clear c53); (try clear c55); (try clear c55b0); (try clear c55b1); (try clear c56); (try clear c56b0); (try clear c56b1); (try clear c56b2); (try clear c57); (try clear c57b0); (try clear c57b1); (try clear c57b2); (try clear c59); (try clear c60); (try clear c62); (try clear p64); (try clear c66); (try clear c67); (try clear c69); (try clear c72); (try clear c73); (try clear c75); (try clear c78); (try clear c78b0); (try clear c78b1); (try clear c79); (try clear c80); (try clear c85); (try clear c86); (try clear hcz17_0); (try clear hcz17_1); (try clear hcz17_2); (try clear hcz17_3); (try clear hcz21_0); (try clear hcz21_1); (try clear hcz21_2); (try clear hcz21_3); (try clear hcz26_0); (try clear hcz26_1); (try clear hcz26_2); (try clear hcz26_3); (try clear hcz27_0); (try clear hcz27_1); (try clear hcz27_2); (try clear hcz27_3); (try clear hcz34_0); (try clear hcz34_1); (try clear hcz34_2); (try clear hcz34_3); (try clear hcz36_0); (try clear hcz36_1); (try clear hcz36_2); (try clear hcz36_3); (try clear hcz41_0); (try clear hcz41_1); (try clear hcz41_2); (try clear hcz41_3); (try clear hcz43_0); (try clear hcz43_1); (try clear hcz43_2); (try clear hcz43_3); (try clear hcz47_0); (try clear hcz47_1); (try clear hcz47_2); (try clear hcz47_3); (try clear hcz49_0); (try clear hcz49_1); (try clear hcz49_2); (try clear hcz49_3); (try clear hcz54_0); (try clear hcz54_1); (try clear hcz54_2); (try clear hcz54_3); (try clear hcz61_0); (try clear hcz61_1); (try clear hcz61_2); (try clear hcz61_3); (try clear hcz63_0); (try clear hcz63_1); (try clear hcz63_2); (try clear hcz63_3); (try clear hcz68_0); (try clear hcz68_1); (try clear hcz68_2); (try clear hcz68_3); (try clear hcz70_0); (try clear hcz70_1); (try clear hcz70_2); (try clear hcz70_3); (try clear hcz74_0); (try clear hcz74_1); (try clear hcz74_2); (try clear hcz74_3); (try clear hcz76_0); (try clear hcz76_1); (try clear hcz76_2); (try clear hcz76_3); (try clear hcz81_0); (try clear hcz81_1); (try clear hcz81_2); (try clear hcz81_3); (try clear hcz87_0); (try clear hcz87_1); (try clear hcz87_2); (try clear hcz87_3); (try clear hfz17_0); (try clear hfz17_1); (try clear hfz17_2); (try clear hfz17_3); (try clear hfz21_0); (try clear hfz21_1); (try clear hfz21_2); (try clear hfz21_3); (try clear hfz26_0); (try clear hfz26_1); (try clear hfz26_2); (try clear hfz26_3); (try clear hfz27_0); (try clear hfz27_1); (try clear hfz27_2); (try clear hfz27_3); (try clear hfz34_0); (try clear hfz34_1); (try clear hfz34_2); (try clear hfz34_3); (try clear hfz36_0); (try clear hfz36_1); (try clear hfz36_2); (try clear hfz36_3); (try clear hfz41_0); (try clear hfz41_1); (try clear hfz41_2); (try clear hfz41_3); (try clear hfz43_0); (try clear hfz43_1); (try clear hfz43_2); (try clear hfz43_3); (try clear hfz47_0); (try clear hfz47_1); (try clear hfz47_2); (try clear hfz47_3); (try clear hfz49_0); (try clear hfz49_1); (try clear hfz49_2); (try clear hfz49_3); (try clear hfz54_0); (try clear hfz54_1); (try clear hfz54_2); (try clear hfz54_3); (try clear hfz61_0); (try clear hfz61_1); (try clear hfz61_2); (try clear hfz61_3); (try clear hfz63_0); (try clear hfz63_1); (try clear hfz63_2); (try clear hfz63_3); (try clear hfz68_0); (try clear hfz68_1); (try clear hfz68_2); (try clear hfz68_3); (try clear hfz70_0); (try clear hfz70_1); (try clear hfz70_2); (try clear hfz70_3); (try clear hfz74_0); (try clear hfz74_1); (try clear hfz74_2); (try clear hfz74_3); (try clear hfz76_0); (try clear hfz76_1); (try clear hfz76_2); (try clear hfz76_3); (try clear hfz81_0); (try clear hfz81_1); (try clear hfz81_2); (try clear hfz81_3); (try clear hfz87_0); (try clear hfz87_1); (try clear hfz87_2); (try clear hfz87_3)
            obtain ⟨kq, x90_76, rfl, HA, HJ76, HO_5, HO_7, HO_9, BK281, BK289, BK297, HB⟩ := hcut
            cases kq with
            | zero => exact absurd HA.out (by simp [sortilegelaw05_LexerLines.j4])
            | succ kj76 =>
             have H := HA.out
             clear HA
             simp only [sortilegelaw05_LexerLines.j4] at H
             have HC88 := Aside0.mk H
             clear H
             go_upto_if 90 with (fail)
             go_cut [] (fun wc => ∃ (kq : Nat), Aside0 (sortilegelaw05_LexerLines.j5 kq t274 t282 t290 t299 = some r) ∧ Aside0 (kq ≤ kj76) ∧ Aside0 (Kd.R k36 36 wc w.heap.size (fun k_ => some k_ ≠ (v283 : Value).ownBlock ∧ some k_ ≠ (v291 : Value).ownBlock) v275 t274) ∧ Aside0 (Kd.R k36 36 wc w.heap.size (fun k_ => some k_ ≠ (v275 : Value).ownBlock ∧ some k_ ≠ (v291 : Value).ownBlock) v283 t282) ∧ Aside0 (Kd.R k36 36 wc w.heap.size (fun k_ => some k_ ≠ (v275 : Value).ownBlock ∧ some k_ ≠ (v283 : Value).ownBlock) v291 t290) ∧ Aside0 (wc.heap[gb281]? = some (.cells #[.int .i64 t277, .string t278, .int .i64 t279, .int .i64 t280] 26 (0, 0))) ∧ Aside0 (wc.heap[gb289]? = some (.cells #[.int .i64 t285, .string t286, .int .i64 x290002_50, .int .i64 t288] 26 (0, 0))) ∧ Aside0 (wc.heap[gb297]? = some (.cells #[.int .i64 t293, .string t294, .int .i64 t295, .int .i64 t296] 26 (0, 0))) ∧ Aside0 (Below w.heap.size w wc))
             case first =>
              have H := HC88.out
              clear HC88
              by_cases c89 : x90_76 = true
              ·subst c89
               have H1 : (some false) = some r := by rw [if_pos rfl] at H; exact H
               clear H
               have H := H1
               clear H1
               obtain rfl := Option.some.inj H
               go_wp2
               go_ret
               exact ⟨by first | rfl | (simp [errW_none, errW_some] <;> rfl) | (simp [*, errW_none, errW_some] <;> rfl), by repeat (first | (with_reducible first | exact HB.out | apply below_alloc | apply pw_below_drewN | apply below_drew1 | refine below_set ?_ GE281.out | refine below_set ?_ GE289.out | refine below_set ?_ GE297.out) | exact HB.out)⟩
              ·replace c89 := Bool.eq_false_iff.mpr c89
               subst c89
               have H1 : (sortilegelaw05_LexerLines.j5 kj76 t274 t282 t290 t299) = some r := by rw [if_neg (show ¬ (false = true) by decide)] at H; exact H
               clear H
               have H := H1
               clear H1
               have H' := Aside0.mk H
               clear H
               go_wp2
               go_meet
               case rel => exact ⟨_, H', ⟨by have := HJ2.out; have := HJ4.out; have := HJ13.out; have := HJ50.out; have := HJ76.out; first | omega | exact Nat.le_refl _⟩, ⟨by (with_reducible repeat (first | apply Kd.R_alloc | apply Kd.R_drewN | apply Kd.R_drew)); exact HO_5.out⟩, ⟨by (with_reducible repeat (first | apply Kd.R_alloc | apply Kd.R_drewN | apply Kd.R_drew)); exact HO_7.out⟩, ⟨by (with_reducible repeat (first | apply Kd.R_alloc | apply Kd.R_drewN | apply Kd.R_drew)); exact HO_9.out⟩, ⟨by (with_reducible repeat (first | refine blk_drewN ?_ _ | refine blk_drew ?_ | refine blk_alloc ?_ _)); exact BK281.out⟩, ⟨by (with_reducible repeat (first | refine blk_drewN ?_ _ | refine blk_drew ?_ | refine blk_alloc ?_ _)); exact BK289.out⟩, ⟨by (with_reducible repeat (first | refine blk_drewN ?_ _ | refine blk_drew ?_ | refine blk_alloc ?_ _)); exact BK297.out⟩, ⟨by repeat (first | (with_reducible first | exact HB.out | apply below_alloc | apply pw_below_drewN | apply below_drew1 | refine below_set ?_ GE281.out | refine below_set ?_ GE289.out | refine below_set ?_ GE297.out) | exact HB.out)⟩⟩
             case rest =>
              clear HC88
              (try clear c1); (try clear c2); (try clear p2); (try clear c3); (try clear c4); (try clear c4b0); (try clear c4b1); (try clear c5); (try clear c6); (try clear p6); (try clear c7); (try clear c8); (try clear c9); (try clear c9b0); (try clear c9b1); (try clear c9b2); (try clear c12); (try clear c12b0); (try clear c12b1); (try clear c12b2); (try clear c20); (try clear c24); (try clear c25); (try clear c28); (try clear c28b0); (try clear c28b1); (try clear c29); (try clear c29b0); (try clear c29b1); (try clear c29b2); (try clear c30); (try clear c30b0); (try clear c30b1); (try clear c30b2); (try clear c32); (try clear c33); (try clear c35); (try clear c39); (try clear c40); (try clear c42); (try clear c45); (try clear c46); (try clear c48); (try clear c52); (try clear c53); (try clear c55); (try clear c55b0); (try clear c55b1); (try clear c56); (try clear c56b0); (try clear c56b1); (try clear c56b2); (try clear c57); (try clear c57b0); (try clear c57b1); (try clear c57b2); (try clear c59); (try clear c60); (try clear c62); (try clear p64); (try clear c66); (try clear c67); (try clear c69); (try clear c72); (try clear c73); (try clear c75); (try clear c78); (try clear c78b0); (try clear c78b1); (try clear c79); (try clear c80); (try clear c85); (try clear c86); (try clear c89); (try clear hcz17_0); (try clear hcz17_1); (try clear hcz17_2); (try clear hcz17_3); (try clear hcz21_0); (try clear hcz21_1); (try clear hcz21_2); (try clear hcz21_3); (try clear hcz26_0); (try clear hcz26_1); (try clear hcz26_2); (try clear hcz26_3); (try clear hcz27_0); (try clear hcz27_1); (try clear hcz27_2); (try clear hcz27_3); (try clear hcz34_0); (try clear hcz34_1); (try clear hcz34_2); (try clear hcz34_3); (try clear hcz36_0); (try clear hcz36_1); (try clear hcz36_2); (try clear hcz36_3); (try clear hcz41_0); (try clear hcz41_1); (try clear hcz41_2); (try clear hcz41_3); (try clear hcz43_0); (try clear hcz43_1); (try clear hcz43_2); (try clear hcz43_3); (try clear hcz47_0); (try clear hcz47_1); (try clear hcz47_2); (try clear hcz47_3); (try clear hcz49_0); (try clear hcz49_1); (try clear hcz49_2); (try clear hcz49_3); (try clear hcz54_0); (try clear hcz54_1); (try clear hcz54_2); (try clear hcz54_3); (try clear hcz61_0); (try clear hcz61_1); (try clear hcz61_2); (try clear hcz61_3); (try clear hcz63_0); (try clear hcz63_1); (try clear hcz63_2); (try clear hcz63_3); (try clear hcz68_0); (try clear hcz68_1); (try clear hcz68_2); (try clear hcz68_3); (try clear hcz70_0); (try clear hcz70_1); (try clear hcz70_2); (try clear hcz70_3); (try clear hcz74_0); (try clear hcz74_1); (try clear hcz74_2); (try clear hcz74_3); (try clear hcz76_0); (try clear hcz76_1); (try clear hcz76_2); (try clear hcz76_3); (try clear hcz81_0); (try clear hcz81_1); (try clear hcz81_2); (try clear hcz81_3); (try clear hcz87_0); (try clear hcz87_1); (try clear hcz87_2); (try clear hcz87_3); (try clear hfz17_0); (try clear hfz17_1); (try clear hfz17_2); (try clear hfz17_3); (try clear hfz21_0); (try clear hfz21_1); (try clear hfz21_2); (try clear hfz21_3); (try clear hfz26_0); (try clear hfz26_1); (try clear hfz26_2); (try clear hfz26_3); (try clear hfz27_0); (try clear hfz27_1); (try clear hfz27_2); (try clear hfz27_3); (try clear hfz34_0); (try clear hfz34_1); (try clear hfz34_2); (try clear hfz34_3); (try clear hfz36_0); (try clear hfz36_1); (try clear hfz36_2); (try clear hfz36_3); (try clear hfz41_0); (try clear hfz41_1); (try clear hfz41_2); (try clear hfz41_3); (try clear hfz43_0); (try clear hfz43_1); (try clear hfz43_2); (try clear hfz43_3); (try clear hfz47_0); (try clear hfz47_1); (try clear hfz47_2); (try clear hfz47_3); (try clear hfz49_0); (try clear hfz49_1); (try clear hfz49_2); (try clear hfz49_3); (try clear hfz54_0); (try clear hfz54_1); (try clear hfz54_2); (try clear hfz54_3); (try clear hfz61_0); (try clear hfz61_1); (try clear hfz61_2); (try clear hfz61_3); (try clear hfz63_0); (try clear hfz63_1); (try clear hfz63_2); (try clear hfz63_3); (try clear hfz68_0); (try clear hfz68_1); (try clear hfz68_2); (try clear hfz68_3); (try clear hfz70_0); (try clear hfz70_1); (try clear hfz70_2); (try clear hfz70_3); (try clear hfz74_0); (try clear hfz74_1); (try clear hfz74_2); (try clear hfz74_3); (try clear hfz76_0); (try clear hfz76_1); (try clear hfz76_2); (try clear hfz76_3); (try clear hfz81_0); (try clear hfz81_1); (try clear hfz81_2); (try clear hfz81_3); (try clear hfz87_0); (try clear hfz87_1); (try clear hfz87_2); (try clear hfz87_3)
              obtain ⟨kq, HA, HJ87, HO_5, HO_7, HO_9, BK281, BK289, BK297, HB⟩ := hcut
              cases kq with
              | zero => exact absurd HA.out (by simp [sortilegelaw05_LexerLines.j5])
              | succ kj87 =>
               have H := HA.out
               clear HA
               simp only [sortilegelaw05_LexerLines.j5] at H
               have HC90 := Aside0.mk H
               clear H
               go_upto_block 0 with (fail)
               go_cut [] (fun wc => ∃ (kq : Nat), Aside0 (sortilegelaw05_LexerLines.j10 kq  = some r) ∧ Aside0 (kq ≤ kj87) ∧ Aside0 (wc.heap[gb281]? = some (.cells #[.int .i64 t277, .string t278, .int .i64 t279, .int .i64 t280] 26 (0, 0))) ∧ Aside0 (wc.heap[gb289]? = some (.cells #[.int .i64 t285, .string t286, .int .i64 x290002_50, .int .i64 t288] 26 (0, 0))) ∧ Aside0 (wc.heap[gb297]? = some (.cells #[.int .i64 t293, .string t294, .int .i64 t295, .int .i64 t296] 26 (0, 0))) ∧ Aside0 (Below w.heap.size w wc))
               case first =>
                have H := HC90.out
                clear HC90
                have H' := Aside0.mk H
                clear H
                go_wp2
                go_loopg [12] kj87 (fun kq v12 w' => ∃ (x12_7 : Int), v12 = .int .i64 x12_7 ∧ Aside0 (sortilegelaw05_LexerLines.l0 kq t274 t282 t290 t299 x12_7 = some r) ∧ Aside0 (kq ≤ kj87) ∧ Aside0 (Kd.R k36 36 w' w.heap.size (fun k_ => some k_ ≠ (v283 : Value).ownBlock ∧ some k_ ≠ (v291 : Value).ownBlock) v275 t274) ∧ Aside0 (Kd.R k36 36 w' w.heap.size (fun k_ => some k_ ≠ (v275 : Value).ownBlock ∧ some k_ ≠ (v291 : Value).ownBlock) v283 t282) ∧ Aside0 (Kd.R k36 36 w' w.heap.size (fun k_ => some k_ ≠ (v275 : Value).ownBlock ∧ some k_ ≠ (v283 : Value).ownBlock) v291 t290) ∧ Aside0 (w'.heap[gb281]? = some (.cells #[.int .i64 t277, .string t278, .int .i64 t279, .int .i64 t280] 26 (0, 0))) ∧ Aside0 (w'.heap[gb289]? = some (.cells #[.int .i64 t285, .string t286, .int .i64 x290002_50, .int .i64 t288] 26 (0, 0))) ∧ Aside0 (w'.heap[gb297]? = some (.cells #[.int .i64 t293, .string t294, .int .i64 t295, .int .i64 t296] 26 (0, 0))) ∧ Aside0 (Below w.heap.size w w'))
                case atStart => exact ⟨(0), (by first | rfl | (simp; done) | (simp [*]; done)), H', ⟨Nat.le_refl _⟩, ⟨by (with_reducible repeat (first | apply Kd.R_alloc | apply Kd.R_drewN | apply Kd.R_drew)); exact HO_5.out⟩, ⟨by (with_reducible repeat (first | apply Kd.R_alloc | apply Kd.R_drewN | apply Kd.R_drew)); exact HO_7.out⟩, ⟨by (with_reducible repeat (first | apply Kd.R_alloc | apply Kd.R_drewN | apply Kd.R_drew)); exact HO_9.out⟩, ⟨by (with_reducible repeat (first | refine blk_drewN ?_ _ | refine blk_drew ?_ | refine blk_alloc ?_ _)); exact BK281.out⟩, ⟨by (with_reducible repeat (first | refine blk_drewN ?_ _ | refine blk_drew ?_ | refine blk_alloc ?_ _)); exact BK289.out⟩, ⟨by (with_reducible repeat (first | refine blk_drewN ?_ _ | refine blk_drew ?_ | refine blk_alloc ?_ _)); exact BK297.out⟩, ⟨by repeat (first | (with_reducible first | exact HB.out | apply below_alloc | apply pw_below_drewN | apply below_drew1 | refine below_set ?_ GE281.out | refine below_set ?_ GE289.out | refine below_set ?_ GE297.out) | exact HB.out)⟩⟩
                case round =>
                 clear H'
                 (try clear c1); (try clear c2); (try clear p2); (try clear c3); (try clear c4); (try clear c4b0); (try clear c4b1); (try clear c5); (try clear c6); (try clear p6); (try clear c7); (try clear c8); (try clear c9); (try clear c9b0); (try clear c9b1); (try clear c9b2); (try clear c12); (try clear c12b0); (try clear c12b1); (try clear c12b2); (try clear c20); (try clear c24); (try clear c25); (try clear c28); (try clear c28b0); (try clear c28b1); (try clear c29); (try clear c29b0); (try clear c29b1); (try clear c29b2); (try clear c30); (try clear c30b0); (try clear c30b1); (try clear c30b2); (try clear c32); (try clear c33); (try clear c35); (try clear c39); (try clear c40); (try clear c42); (try clear c45); (try clear c46); (try clear c48); (try clear c52); (try clear c53); (try clear c55); (try clear c55b0); (try clear c55b1); (try clear c56); (try clear c56b0); (try clear c56b1); (try clear c56b2); (try clear c57); (try clear c57b0); (try clear c57b1); (try clear c57b2); (try clear c59); (try clear c60); (try clear c62); (try clear p64); (try clear c66); (try clear c67); (try clear c69); (try clear c72); (try clear c73); (try clear c75); (try clear c78); (try clear c78b0); (try clear c78b1); (try clear c79); (try clear c80); (try clear c85); (try clear c86); (try clear c89); (try clear hcz17_0); (try clear hcz17_1); (try clear hcz17_2); (try clear hcz17_3); (try clear hcz21_0); (try clear hcz21_1); (try clear hcz21_2); (try clear hcz21_3); (try clear hcz26_0); (try clear hcz26_1); (try clear hcz26_2); (try clear hcz26_3); (try clear hcz27_0); (try clear hcz27_1); (try clear hcz27_2); (try clear hcz27_3); (try clear hcz34_0); (try clear hcz34_1); (try clear hcz34_2); (try clear hcz34_3); (try clear hcz36_0); (try clear hcz36_1); (try clear hcz36_2); (try clear hcz36_3); (try clear hcz41_0); (try clear hcz41_1); (try clear hcz41_2); (try clear hcz41_3); (try clear hcz43_0); (try clear hcz43_1); (try clear hcz43_2); (try clear hcz43_3); (try clear hcz47_0); (try clear hcz47_1); (try clear hcz47_2); (try clear hcz47_3); (try clear hcz49_0); (try clear hcz49_1); (try clear hcz49_2); (try clear hcz49_3); (try clear hcz54_0); (try clear hcz54_1); (try clear hcz54_2); (try clear hcz54_3); (try clear hcz61_0); (try clear hcz61_1); (try clear hcz61_2); (try clear hcz61_3); (try clear hcz63_0); (try clear hcz63_1); (try clear hcz63_2); (try clear hcz63_3); (try clear hcz68_0); (try clear hcz68_1); (try clear hcz68_2); (try clear hcz68_3); (try clear hcz70_0); (try clear hcz70_1); (try clear hcz70_2); (try clear hcz70_3); (try clear hcz74_0); (try clear hcz74_1); (try clear hcz74_2); (try clear hcz74_3); (try clear hcz76_0); (try clear hcz76_1); (try clear hcz76_2); (try clear hcz76_3); (try clear hcz81_0); (try clear hcz81_1); (try clear hcz81_2); (try clear hcz81_3); (try clear hcz87_0); (try clear hcz87_1); (try clear hcz87_2); (try clear hcz87_3); (try clear hfz17_0); (try clear hfz17_1); (try clear hfz17_2); (try clear hfz17_3); (try clear hfz21_0); (try clear hfz21_1); (try clear hfz21_2); (try clear hfz21_3); (try clear hfz26_0); (try clear hfz26_1); (try clear hfz26_2); (try clear hfz26_3); (try clear hfz27_0); (try clear hfz27_1); (try clear hfz27_2); (try clear hfz27_3); (try clear hfz34_0); (try clear hfz34_1); (try clear hfz34_2); (try clear hfz34_3); (try clear hfz36_0); (try clear hfz36_1); (try clear hfz36_2); (try clear hfz36_3); (try clear hfz41_0); (try clear hfz41_1); (try clear hfz41_2); (try clear hfz41_3); (try clear hfz43_0); (try clear hfz43_1); (try clear hfz43_2); (try clear hfz43_3); (try clear hfz47_0); (try clear hfz47_1); (try clear hfz47_2); (try clear hfz47_3); (try clear hfz49_0); (try clear hfz49_1); (try clear hfz49_2); (try clear hfz49_3); (try clear hfz54_0); (try clear hfz54_1); (try clear hfz54_2); (try clear hfz54_3); (try clear hfz61_0); (try clear hfz61_1); (try clear hfz61_2); (try clear hfz61_3); (try clear hfz63_0); (try clear hfz63_1); (try clear hfz63_2); (try clear hfz63_3); (try clear hfz68_0); (try clear hfz68_1); (try clear hfz68_2); (try clear hfz68_3); (try clear hfz70_0); (try clear hfz70_1); (try clear hfz70_2); (try clear hfz70_3); (try clear hfz74_0); (try clear hfz74_1); (try clear hfz74_2); (try clear hfz74_3); (try clear hfz76_0); (try clear hfz76_1); (try clear hfz76_2); (try clear hfz76_3); (try clear hfz81_0); (try clear hfz81_1); (try clear hfz81_2); (try clear hfz81_3); (try clear hfz87_0); (try clear hfz87_1); (try clear hfz87_2); (try clear hfz87_3)
                 obtain ⟨x12_7, rfl, HA, HK7, HO_5, HO_7, HO_9, BK281, BK289, BK297, HB⟩ := hrel
                 cases gk with
                 | zero => exact absurd HA.out (by simp [sortilegelaw05_LexerLines.l0])
                 | succ k7 =>
                  have H := HA.out
                  clear HA
                  simp only [sortilegelaw05_LexerLines.l0] at H
                  have HC91 := Aside0.mk H
                  clear H
                  obtain ⟨Ao92, co92, eo92⟩ := Kd.R_slice HO_9.out
                  subst eo92
                  go_upto_if 94 with (fail)
                  go_cut [] (fun wc => ∃ (kq : Nat), Aside0 (sortilegelaw05_LexerLines.j7 kq t274 t282 t290 t299 x12_7 = some r) ∧ Aside0 (kq ≤ k7) ∧ Aside0 (Kd.R k36 36 wc w.heap.size (fun k_ => some k_ ≠ (v283 : Value).ownBlock ∧ some k_ ≠ ((.slice Ao92 t290.length co92) : Value).ownBlock) v275 t274) ∧ Aside0 (Kd.R k36 36 wc w.heap.size (fun k_ => some k_ ≠ (v275 : Value).ownBlock ∧ some k_ ≠ ((.slice Ao92 t290.length co92) : Value).ownBlock) v283 t282) ∧ Aside0 (Kd.R k36 36 wc w.heap.size (fun k_ => some k_ ≠ (v275 : Value).ownBlock ∧ some k_ ≠ (v283 : Value).ownBlock) (.slice Ao92 t290.length co92) t290) ∧ Aside0 (wc.heap[gb281]? = some (.cells #[.int .i64 t277, .string t278, .int .i64 t279, .int .i64 t280] 26 (0, 0))) ∧ Aside0 (wc.heap[gb289]? = some (.cells #[.int .i64 t285, .string t286, .int .i64 x290002_50, .int .i64 t288] 26 (0, 0))) ∧ Aside0 (wc.heap[gb297]? = some (.cells #[.int .i64 t293, .string t294, .int .i64 t295, .int .i64 t296] 26 (0, 0))) ∧ Aside0 (Below w.heap.size w wc))
                  case first =>
                   have H := HC91.out
                   clear HC91
                   by_cases c93 : x12_7 < (t290.length : Int)
                   ·rw [if_pos c93] at H
                    have c93b0 : decide (x12_7 < (t290.length : Int)) = true := decide_eq_true c93
                    clear c93
                    (first | rw [c93b0] | (simp only [i64_w, i32_w]; rw [c93b0]) | skip)
                    have H' := Aside0.mk H
                    clear H
                    go_wp2
                    go_meet
                    case rel => exact ⟨_, H', ⟨by have := HJ2.out; have := HJ4.out; have := HJ13.out; have := HJ50.out; have := HJ76.out; have := HJ87.out; have := HK7.out; first | omega | exact Nat.le_refl _⟩, ⟨by (with_reducible repeat (first | apply Kd.R_alloc | apply Kd.R_drewN | apply Kd.R_drew)); exact HO_5.out⟩, ⟨by (with_reducible repeat (first | apply Kd.R_alloc | apply Kd.R_drewN | apply Kd.R_drew)); exact HO_7.out⟩, ⟨by (with_reducible repeat (first | apply Kd.R_alloc | apply Kd.R_drewN | apply Kd.R_drew)); exact HO_9.out⟩, ⟨by (with_reducible repeat (first | refine blk_drewN ?_ _ | refine blk_drew ?_ | refine blk_alloc ?_ _)); exact BK281.out⟩, ⟨by (with_reducible repeat (first | refine blk_drewN ?_ _ | refine blk_drew ?_ | refine blk_alloc ?_ _)); exact BK289.out⟩, ⟨by (with_reducible repeat (first | refine blk_drewN ?_ _ | refine blk_drew ?_ | refine blk_alloc ?_ _)); exact BK297.out⟩, ⟨by repeat (first | (with_reducible first | exact HB.out | apply below_alloc | apply pw_below_drewN | apply below_drew1 | refine below_set ?_ GE281.out | refine below_set ?_ GE289.out | refine below_set ?_ GE297.out) | exact HB.out)⟩⟩
                   ·rw [if_neg c93] at H
                    have c93b0 : decide (x12_7 < (t290.length : Int)) = false := decide_eq_false c93
                    clear c93
                    (first | rw [c93b0] | (simp only [i64_w, i32_w]; rw [c93b0]) | skip)
                    have H' := Aside0.mk H
                    clear H
                    go_wp2
                    go_meet
                    case rel => exact ⟨_, H', ⟨by have := HJ2.out; have := HJ4.out; have := HJ13.out; have := HJ50.out; have := HJ76.out; have := HJ87.out; have := HK7.out; first | omega | exact Nat.le_refl _⟩, ⟨by (with_reducible repeat (first | refine blk_drewN ?_ _ | refine blk_drew ?_ | refine blk_alloc ?_ _)); exact BK281.out⟩, ⟨by (with_reducible repeat (first | refine blk_drewN ?_ _ | refine blk_drew ?_ | refine blk_alloc ?_ _)); exact BK289.out⟩, ⟨by (with_reducible repeat (first | refine blk_drewN ?_ _ | refine blk_drew ?_ | refine blk_alloc ?_ _)); exact BK297.out⟩, ⟨by repeat (first | (with_reducible first | exact HB.out | apply below_alloc | apply pw_below_drewN | apply below_drew1 | refine below_set ?_ GE281.out | refine below_set ?_ GE289.out | refine below_set ?_ GE297.out) | exact HB.out)⟩⟩
                  case rest =>
                   clear HC91
                   (try clear c1); (try clear c2); (try clear p2); (try clear c3); (try clear c4); (try clear c4b0); (try clear c4b1); (try clear c5); (try clear c6); (try clear p6); (try clear c7); (try clear c8); (try clear c9); (try clear c9b0); (try clear c9b1); (try clear c9b2); (try clear c12); (try clear c12b0); (try clear c12b1); (try clear c12b2); (try clear c20); (try clear c24); (try clear c25); (try clear c28); (try clear c28b0); (try clear c28b1); (try clear c29); (try clear c29b0); (try clear c29b1); (try clear c29b2); (try clear c30); (try clear c30b0); (try clear c30b1); (try clear c30b2); (try clear c32); (try clear c33); (try clear c35); (try clear c39); (try clear c40); (try clear c42); (try clear c45); (try clear c46); (try clear c48); (try clear c52); (try clear c53); (try clear c55); (try clear c55b0); (try clear c55b1); (try clear c56); (try clear c56b0); (try clear c56b1); (try clear c56b2); (try clear c57); (try clear c57b0); (try clear c57b1); (try clear c57b2); (try clear c59); (try clear c60); (try clear c62); (try clear p64); (try clear c66); (try clear c67); (try clear c69); (try clear c72); (try clear c73); (try clear c75); (try clear c78); (try clear c78b0); (try clear c78b1); (try clear c79); (try clear c80); (try clear c85); (try clear c86); (try clear c89); (try clear c93); (try clear c93b0); (try clear hcz17_0); (try clear hcz17_1); (try clear hcz17_2); (try clear hcz17_3); (try clear hcz21_0); (try clear hcz21_1); (try clear hcz21_2); (try clear hcz21_3); (try clear hcz26_0); (try clear hcz26_1); (try clear hcz26_2); (try clear hcz26_3); (try clear hcz27_0); (try clear hcz27_1); (try clear hcz27_2); (try clear hcz27_3); (try clear hcz34_0); (try clear hcz34_1); (try clear hcz34_2); (try clear hcz34_3); (try clear hcz36_0); (try clear hcz36_1); (try clear hcz36_2); (try clear hcz36_3); (try clear hcz41_0); (try clear hcz41_1); (try clear hcz41_2); (try clear hcz41_3); (try clear hcz43_0); (try clear hcz43_1); (try clear hcz43_2); (try clear hcz43_3); (try clear hcz47_0); (try clear hcz47_1); (try clear hcz47_2); (try clear hcz47_3); (try clear hcz49_0); (try clear hcz49_1); (try clear hcz49_2); (try clear hcz49_3); (try clear hcz54_0); (try clear hcz54_1); (try clear hcz54_2); (try clear hcz54_3); (try clear hcz61_0); (try clear hcz61_1); (try clear hcz61_2); (try clear hcz61_3); (try clear hcz63_0); (try clear hcz63_1); (try clear hcz63_2); (try clear hcz63_3); (try clear hcz68_0); (try clear hcz68_1); (try clear hcz68_2); (try clear hcz68_3); (try clear hcz70_0); (try clear hcz70_1); (try clear hcz70_2); (try clear hcz70_3); (try clear hcz74_0); (try clear hcz74_1); (try clear hcz74_2); (try clear hcz74_3); (try clear hcz76_0); (try clear hcz76_1); (try clear hcz76_2); (try clear hcz76_3); (try clear hcz81_0); (try clear hcz81_1); (try clear hcz81_2); (try clear hcz81_3); (try clear hcz87_0); (try clear hcz87_1); (try clear hcz87_2); (try clear hcz87_3); (try clear hfz17_0); (try clear hfz17_1); (try clear hfz17_2); (try clear hfz17_3); (try clear hfz21_0); (try clear hfz21_1); (try clear hfz21_2); (try clear hfz21_3); (try clear hfz26_0); (try clear hfz26_1); (try clear hfz26_2); (try clear hfz26_3); (try clear hfz27_0); (try clear hfz27_1); (try clear hfz27_2); (try clear hfz27_3); (try clear hfz34_0); (try clear hfz34_1); (try clear hfz34_2); (try clear hfz34_3); (try clear hfz36_0); (try clear hfz36_1); (try clear hfz36_2); (try clear hfz36_3); (try clear hfz41_0); (try clear hfz41_1); (try clear hfz41_2); (try clear hfz41_3); (try clear hfz43_0); (try clear hfz43_1); (try clear hfz43_2); (try clear hfz43_3); (try clear hfz47_0); (try clear hfz47_1); (try clear hfz47_2); (try clear hfz47_3); (try clear hfz49_0); (try clear hfz49_1); (try clear hfz49_2); (try clear hfz49_3); (try clear hfz54_0); (try clear hfz54_1); (try clear hfz54_2); (try clear hfz54_3); (try clear hfz61_0); (try clear hfz61_1); (try clear hfz61_2); (try clear hfz61_3); (try clear hfz63_0); (try clear hfz63_1); (try clear hfz63_2); (try clear hfz63_3); (try clear hfz68_0); (try clear hfz68_1); (try clear hfz68_2); (try clear hfz68_3); (try clear hfz70_0); (try clear hfz70_1); (try clear hfz70_2); (try clear hfz70_3); (try clear hfz74_0); (try clear hfz74_1); (try clear hfz74_2); (try clear hfz74_3); (try clear hfz76_0); (try clear hfz76_1); (try clear hfz76_2); (try clear hfz76_3); (try clear hfz81_0); (try clear hfz81_1); (try clear hfz81_2); (try clear hfz81_3); (try clear hfz87_0); (try clear hfz87_1); (try clear hfz87_2); (try clear hfz87_3)
                   obtain ⟨kq, HA, HJ90, HO_5, HO_7, HO_9, BK281, BK289, BK297, HB⟩ := hcut
                   cases kq with
                   | zero => exact absurd HA.out (by simp [sortilegelaw05_LexerLines.j7])
                   | succ kj90 =>
                    have H := HA.out
                    clear HA
                    simp only [sortilegelaw05_LexerLines.j7] at H
                    have HC94 := Aside0.mk H
                    clear H
                    go_upto_region 18 with (fail)
                    go_cut [112] (fun v112 wc => ∃ (kq : Nat) (x112_93 : Bool), v112 = .bool x112_93 ∧ Aside0 (sortilegelaw05_LexerLines.j8 kq t274 t282 t290 t299 x12_7 x112_93 = some r) ∧ Aside0 (kq ≤ kj90) ∧ Aside0 (Kd.R k36 36 wc w.heap.size (fun k_ => some k_ ≠ (v283 : Value).ownBlock ∧ some k_ ≠ ((.slice Ao92 t290.length co92) : Value).ownBlock) v275 t274) ∧ Aside0 (Kd.R k36 36 wc w.heap.size (fun k_ => some k_ ≠ (v275 : Value).ownBlock ∧ some k_ ≠ ((.slice Ao92 t290.length co92) : Value).ownBlock) v283 t282) ∧ Aside0 (Kd.R k36 36 wc w.heap.size (fun k_ => some k_ ≠ (v275 : Value).ownBlock ∧ some k_ ≠ (v283 : Value).ownBlock) (.slice Ao92 t290.length co92) t290) ∧ Aside0 (wc.heap[gb281]? = some (.cells #[.int .i64 t277, .string t278, .int .i64 t279, .int .i64 t280] 26 (0, 0))) ∧ Aside0 (wc.heap[gb289]? = some (.cells #[.int .i64 t285, .string t286, .int .i64 x290002_50, .int .i64 t288] 26 (0, 0))) ∧ Aside0 (wc.heap[gb297]? = some (.cells #[.int .i64 t293, .string t294, .int .i64 t295, .int .i64 t296] 26 (0, 0))) ∧ Aside0 (Below w.heap.size w wc))
                    case first =>
                     have H := HC94.out
                     clear HC94
                     by_cases c95 : x12_7 < (wrap64 ((t274.length : Int) - 1))
                     ·rw [if_pos c95] at H
                      have c95b0 : decide (x12_7 < (wrap64 ((t274.length : Int) - 1))) = true := decide_eq_true c95
                      clear c95
                      (first | rw [c95b0] | (simp only [i64_w, i32_w]; rw [c95b0]) | skip)
                      by_cases c96 : 0 ≤ x12_7
                      ·rw [if_pos c96] at H
                       have c96b0 : decide (0 ≤ x12_7) = true := decide_eq_true c96
                       clear c96
                       by_cases c97 : x12_7 < (t290.length : Int)
                       ·rw [if_pos c97] at H
                        have c97b0 : decide (x12_7 < (t290.length : Int)) = true := decide_eq_true c97
                        clear c97
                        by_cases c98 : x12_7 < (t274.length : Int)
                        ·rw [if_pos c98] at H
                         have c98b0 : decide (x12_7 < (t274.length : Int)) = true := decide_eq_true c98
                         clear c98
                         have H' := Aside0.mk H
                         clear H
                         obtain ⟨Ao99, co99, eo99⟩ := Kd.R_slice HO_5.out
                         subst eo99
                         have p301 : 0 ≤ (x12_7 : Int) := of_decide_eq_true (by first | (with_reducible assumption) | assumption)
                         have q301 : x12_7 < (t290.length : Int) := of_decide_eq_true (by first | (with_reducible assumption) | assumption)
                         obtain ⟨ad301, e301, hx301_0, hx301_1, hx301_2, hx301_3, hx301_4⟩ := at_T36 (Kd.R_reads' HO_9.out).2.2 x12_7 p301 q301
                         cases e301
                         replace p301 := eq_true p301
                         replace q301 := eq_true q301
                         have p302 : 0 ≤ (x12_7 : Int) := of_decide_eq_true (by first | (with_reducible assumption) | assumption)
                         have q302 : x12_7 < (t274.length : Int) := of_decide_eq_true (by first | (with_reducible assumption) | assumption)
                         obtain ⟨ad302, e302, hx302_0, hx302_1, hx302_2, hx302_3, hx302_4⟩ := at_T36 (Kd.R_reads' HO_5.out).2.2 x12_7 p302 q302
                         cases e302
                         replace p302 := eq_true p302
                         replace q302 := eq_true q302
                         go_wp2
                         repeat (go_quiet (fail); try go_wp2)
                         go_meet
                         case rel => exact ⟨_, ((!(((rd_T36 t290 x12_7).f0) == ((rd_T36 t274 x12_7).f0)) || (!((((rd_T36 t290 x12_7).f1).toList) == (((rd_T36 t274 x12_7).f1).toList)) || (!(((rd_T36 t290 x12_7).f2) == ((rd_T36 t274 x12_7).f2)) || (!(((rd_T36 t290 x12_7).f3) == ((rd_T36 t274 x12_7).f3)) || (!(((rd_T36 t290 x12_7).f4) == ((rd_T36 t274 x12_7).f4)))))))), (by first | rfl | (simp; done) | (simp [*]; done)), H', ⟨by have := HJ2.out; have := HJ4.out; have := HJ13.out; have := HJ50.out; have := HJ76.out; have := HJ87.out; have := HK7.out; have := HJ90.out; first | omega | exact Nat.le_refl _⟩, ⟨by (with_reducible repeat (first | apply Kd.R_alloc | apply Kd.R_drewN | apply Kd.R_drew)); exact HO_5.out⟩, ⟨by (with_reducible repeat (first | apply Kd.R_alloc | apply Kd.R_drewN | apply Kd.R_drew)); exact HO_7.out⟩, ⟨by (with_reducible repeat (first | apply Kd.R_alloc | apply Kd.R_drewN | apply Kd.R_drew)); exact HO_9.out⟩, ⟨by (with_reducible repeat (first | refine blk_drewN ?_ _ | refine blk_drew ?_ | refine blk_alloc ?_ _)); exact BK281.out⟩, ⟨by (with_reducible repeat (first | refine blk_drewN ?_ _ | refine blk_drew ?_ | refine blk_alloc ?_ _)); exact BK289.out⟩, ⟨by (with_reducible repeat (first | refine blk_drewN ?_ _ | refine blk_drew ?_ | refine blk_alloc ?_ _)); exact BK297.out⟩, ⟨by repeat (first | (with_reducible first | exact HB.out | apply below_alloc | apply pw_below_drewN | apply below_drew1 | refine below_set ?_ GE281.out | refine below_set ?_ GE289.out | refine below_set ?_ GE297.out) | exact HB.out)⟩⟩
                        ·rw [if_neg c98] at H
                         exact absurd H (by simp)
                       ·rw [if_neg c97] at H
                        exact absurd H (by simp)
                      ·rw [if_neg c96] at H
                       exact absurd H (by simp)
                     ·rw [if_neg c95] at H
                      have c95b0 : decide (x12_7 < (wrap64 ((t274.length : Int) - 1))) = false := decide_eq_false c95
                      clear c95
                      (first | rw [c95b0] | (simp only [i64_w, i32_w]; rw [c95b0]) | skip)
                      have H' := Aside0.mk H
                      clear H
                      obtain ⟨Ao100, co100, eo100⟩ := Kd.R_slice HO_5.out
                      subst eo100
                      go_wp2
                      repeat (go_quiet (fail); try go_wp2)
                      go_meet
                      case rel => exact ⟨_, (false), (by first | rfl | (simp; done) | (simp [*]; done)), H', ⟨by have := HJ2.out; have := HJ4.out; have := HJ13.out; have := HJ50.out; have := HJ76.out; have := HJ87.out; have := HK7.out; have := HJ90.out; first | omega | exact Nat.le_refl _⟩, ⟨by (with_reducible repeat (first | apply Kd.R_alloc | apply Kd.R_drewN | apply Kd.R_drew)); exact HO_5.out⟩, ⟨by (with_reducible repeat (first | apply Kd.R_alloc | apply Kd.R_drewN | apply Kd.R_drew)); exact HO_7.out⟩, ⟨by (with_reducible repeat (first | apply Kd.R_alloc | apply Kd.R_drewN | apply Kd.R_drew)); exact HO_9.out⟩, ⟨by (with_reducible repeat (first | refine blk_drewN ?_ _ | refine blk_drew ?_ | refine blk_alloc ?_ _)); exact BK281.out⟩, ⟨by (with_reducible repeat (first | refine blk_drewN ?_ _ | refine blk_drew ?_ | refine blk_alloc ?_ _)); exact BK289.out⟩, ⟨by (with_reducible repeat (first | refine blk_drewN ?_ _ | refine blk_drew ?_ | refine blk_alloc ?_ _)); exact BK297.out⟩, ⟨by repeat (first | (with_reducible first | exact HB.out | apply below_alloc | apply pw_below_drewN | apply below_drew1 | refine below_set ?_ GE281.out | refine below_set ?_ GE289.out | refine below_set ?_ GE297.out) | exact HB.out)⟩⟩
                    case rest =>
                     clear HC94
                     (try clear c1); (try clear c2); (try clear p2); (try clear c3); (try clear p3); (try clear q3); (try clear hx3); (try clear c4); (try clear c4b0); (try clear c4b1); (try clear c5); (try clear c6); (try clear p6); (try clear c7); (try clear c8); (try clear c9); (try clear c9b0); (try clear c9b1); (try clear c9b2); (try clear c12); (try clear c12b0); (try clear c12b1); (try clear c12b2); (try clear c20); (try clear c24); (try clear c25); (try clear c28); (try clear c28b0); (try clear c28b1); (try clear c29); (try clear c29b0); (try clear c29b1); (try clear c29b2); (try clear c30); (try clear c30b0); (try clear c30b1); (try clear c30b2); (try clear p30); (try clear q30); (try clear hx30); (try clear c32); (try clear c33); (try clear c35); (try clear c39); (try clear c40); (try clear c42); (try clear c45); (try clear c46); (try clear c48); (try clear c52); (try clear c53); (try clear c55); (try clear c55b0); (try clear c55b1); (try clear c56); (try clear c56b0); (try clear c56b1); (try clear c56b2); (try clear c57); (try clear c57b0); (try clear c57b1); (try clear c57b2); (try clear c59); (try clear c60); (try clear c62); (try clear p64); (try clear c66); (try clear c67); (try clear c69); (try clear c72); (try clear c73); (try clear c75); (try clear c78); (try clear c78b0); (try clear c78b1); (try clear c79); (try clear c80); (try clear c85); (try clear c86); (try clear c89); (try clear c93); (try clear c93b0); (try clear c95); (try clear c95b0); (try clear c96); (try clear c96b0); (try clear c97); (try clear c97b0); (try clear c98); (try clear c98b0); (try clear hcz17_0); (try clear hcz17_1); (try clear hcz17_2); (try clear hcz17_3); (try clear hcz21_0); (try clear hcz21_1); (try clear hcz21_2); (try clear hcz21_3); (try clear hcz26_0); (try clear hcz26_1); (try clear hcz26_2); (try clear hcz26_3); (try clear hcz27_0); (try clear hcz27_1); (try clear hcz27_2); (try clear hcz27_3); (try clear hcz34_0); (try clear hcz34_1); (try clear hcz34_2); (try clear hcz34_3); (try clear hcz36_0); (try clear hcz36_1); (try clear hcz36_2); (try clear hcz36_3); (try clear hcz41_0); (try clear hcz41_1); (try clear hcz41_2); (try clear hcz41_3); (try clear hcz43_0); (try clear hcz43_1); (try clear hcz43_2); (try clear hcz43_3); (try clear hcz47_0); (try clear hcz47_1); (try clear hcz47_2); (try clear hcz47_3); (try clear hcz49_0); (try clear hcz49_1); (try clear hcz49_2); (try clear hcz49_3); (try clear hcz54_0); (try clear hcz54_1); (try clear hcz54_2); (try clear hcz54_3); (try clear hcz61_0); (try clear hcz61_1); (try clear hcz61_2); (try clear hcz61_3); (try clear hcz63_0); (try clear hcz63_1); (try clear hcz63_2); (try clear hcz63_3); (try clear hcz68_0); (try clear hcz68_1); (try clear hcz68_2); (try clear hcz68_3); (try clear hcz70_0); (try clear hcz70_1); (try clear hcz70_2); (try clear hcz70_3); (try clear hcz74_0); (try clear hcz74_1); (try clear hcz74_2); (try clear hcz74_3); (try clear hcz76_0); (try clear hcz76_1); (try clear hcz76_2); (try clear hcz76_3); (try clear hcz81_0); (try clear hcz81_1); (try clear hcz81_2); (try clear hcz81_3); (try clear hcz87_0); (try clear hcz87_1); (try clear hcz87_2); (try clear hcz87_3); (try clear hfz17_0); (try clear hfz17_1); (try clear hfz17_2); (try clear hfz17_3); (try clear hfz21_0); (try clear hfz21_1); (try clear hfz21_2); (try clear hfz21_3); (try clear hfz26_0); (try clear hfz26_1); (try clear hfz26_2); (try clear hfz26_3); (try clear hfz27_0); (try clear hfz27_1); (try clear hfz27_2); (try clear hfz27_3); (try clear hfz34_0); (try clear hfz34_1); (try clear hfz34_2); (try clear hfz34_3); (try clear hfz36_0); (try clear hfz36_1); (try clear hfz36_2); (try clear hfz36_3); (try clear hfz41_0); (try clear hfz41_1); (try clear hfz41_2); (try clear hfz41_3); (try clear hfz43_0); (try clear hfz43_1); (try clear hfz43_2); (try clear hfz43_3); (try clear hfz47_0); (try clear hfz47_1); (try clear hfz47_2); (try clear hfz47_3); (try clear hfz49_0); (try clear hfz49_1); (try clear hfz49_2); (try clear hfz49_3); (try clear hfz54_0); (try clear hfz54_1); (try clear hfz54_2); (try clear hfz54_3); (try clear hfz61_0); (try clear hfz61_1); (try clear hfz61_2); (try clear hfz61_3); (try clear hfz63_0); (try clear hfz63_1); (try clear hfz63_2); (try clear hfz63_3); (try clear hfz68_0); (try clear hfz68_1); (try clear hfz68_2); (try clear hfz68_3); (try clear hfz70_0); (try clear hfz70_1); (try clear hfz70_2); (try clear hfz70_3); (try clear hfz74_0); (try clear hfz74_1); (try clear hfz74_2); (try clear hfz74_3); (try clear hfz76_0); (try clear hfz76_1); (try clear hfz76_2); (try clear hfz76_3); (try clear hfz81_0); (try clear hfz81_1); (try clear hfz81_2); (try clear hfz81_3); (try clear hfz87_0); (try clear hfz87_1); (try clear hfz87_2); (try clear hfz87_3); (try clear hx301_0); (try clear hx301_1); (try clear hx301_2); (try clear hx301_3); (try clear hx301_4); (try clear hx302_0); (try clear hx302_1); (try clear hx302_2); (try clear hx302_3); (try clear hx302_4); (try clear p301); (try clear p302); (try clear q301); (try clear q302)
                     obtain ⟨kq, x112_93, rfl, HA, HJ93, HO_5, HO_7, HO_9, BK281, BK289, BK297, HB⟩ := hcut
                     cases kq with
                     | zero => exact absurd HA.out (by simp [sortilegelaw05_LexerLines.j8])
                     | succ kj93 =>
                      have H := HA.out
                      clear HA
                      simp only [sortilegelaw05_LexerLines.j8] at H
                      have HC101 := Aside0.mk H
                      clear H
                      go_upto_if 112 with (fail)
                      go_cut [] (fun wc => ∃ (kq : Nat), Aside0 (sortilegelaw05_LexerLines.j9 kq t274 t282 t290 t299 x12_7 = some r) ∧ Aside0 (kq ≤ kj93) ∧ Aside0 (Kd.R k36 36 wc w.heap.size (fun k_ => some k_ ≠ (v283 : Value).ownBlock ∧ some k_ ≠ ((.slice Ao92 t290.length co92) : Value).ownBlock) v275 t274) ∧ Aside0 (Kd.R k36 36 wc w.heap.size (fun k_ => some k_ ≠ (v275 : Value).ownBlock ∧ some k_ ≠ ((.slice Ao92 t290.length co92) : Value).ownBlock) v283 t282) ∧ Aside0 (Kd.R k36 36 wc w.heap.size (fun k_ => some k_ ≠ (v275 : Value).ownBlock ∧ some k_ ≠ (v283 : Value).ownBlock) (.slice Ao92 t290.length co92) t290) ∧ Aside0 (wc.heap[gb281]? = some (.cells #[.int .i64 t277, .string t278, .int .i64 t279, .int .i64 t280] 26 (0, 0))) ∧ Aside0 (wc.heap[gb289]? = some (.cells #[.int .i64 t285, .string t286, .int .i64 x290002_50, .int .i64 t288] 26 (0, 0))) ∧ Aside0 (wc.heap[gb297]? = some (.cells #[.int .i64 t293, .string t294, .int .i64 t295, .int .i64 t296] 26 (0, 0))) ∧ Aside0 (Below w.heap.size w wc))
                      case first =>
                       have H := HC101.out
                       clear HC101
                       by_cases c102 : x112_93 = true
                       ·subst c102
                        have H1 : (some false) = some r := by rw [if_pos rfl] at H; exact H
                        clear H
                        have H := H1
                        clear H1
                        obtain rfl := Option.some.inj H
                        go_wp2
                        go_ret
                        exact ⟨by first | rfl | (simp [errW_none, errW_some] <;> rfl) | (simp [*, errW_none, errW_some] <;> rfl), by repeat (first | (with_reducible first | exact HB.out | apply below_alloc | apply pw_below_drewN | apply below_drew1 | refine below_set ?_ GE281.out | refine below_set ?_ GE289.out | refine below_set ?_ GE297.out) | exact HB.out)⟩
                       ·replace c102 := Bool.eq_false_iff.mpr c102
                        subst c102
                        have H1 : (sortilegelaw05_LexerLines.j9 kj93 t274 t282 t290 t299 x12_7) = some r := by rw [if_neg (show ¬ (false = true) by decide)] at H; exact H
                        clear H
                        have H := H1
                        clear H1
                        have H' := Aside0.mk H
                        clear H
                        go_wp2
                        go_meet
                        case rel => exact ⟨_, H', ⟨by have := HJ2.out; have := HJ4.out; have := HJ13.out; have := HJ50.out; have := HJ76.out; have := HJ87.out; have := HK7.out; have := HJ90.out; have := HJ93.out; first | omega | exact Nat.le_refl _⟩, ⟨by (with_reducible repeat (first | apply Kd.R_alloc | apply Kd.R_drewN | apply Kd.R_drew)); exact HO_5.out⟩, ⟨by (with_reducible repeat (first | apply Kd.R_alloc | apply Kd.R_drewN | apply Kd.R_drew)); exact HO_7.out⟩, ⟨by (with_reducible repeat (first | apply Kd.R_alloc | apply Kd.R_drewN | apply Kd.R_drew)); exact HO_9.out⟩, ⟨by (with_reducible repeat (first | refine blk_drewN ?_ _ | refine blk_drew ?_ | refine blk_alloc ?_ _)); exact BK281.out⟩, ⟨by (with_reducible repeat (first | refine blk_drewN ?_ _ | refine blk_drew ?_ | refine blk_alloc ?_ _)); exact BK289.out⟩, ⟨by (with_reducible repeat (first | refine blk_drewN ?_ _ | refine blk_drew ?_ | refine blk_alloc ?_ _)); exact BK297.out⟩, ⟨by repeat (first | (with_reducible first | exact HB.out | apply below_alloc | apply pw_below_drewN | apply below_drew1 | refine below_set ?_ GE281.out | refine below_set ?_ GE289.out | refine below_set ?_ GE297.out) | exact HB.out)⟩⟩
                      case rest =>
                       clear HC101
                       (try clear c1); (try clear c2); (try clear p2); (try clear c3); (try clear p3); (try clear q3); (try clear hx3); (try clear c4); (try clear c4b0); (try clear c4b1); (try clear c5); (try clear c6); (try clear p6); (try clear c7); (try clear c8); (try clear c9); (try clear c9b0); (try clear c9b1); (try clear c9b2); (try clear c10); (try clear c12); (try clear c12b0); (try clear c12b1); (try clear c12b2); (try clear c20); (try clear c24); (try clear c25); (try clear c28); (try clear c28b0); (try clear c28b1); (try clear c29); (try clear c29b0); (try clear c29b1); (try clear c29b2); (try clear c30); (try clear c30b0); (try clear c30b1); (try clear c30b2); (try clear p30); (try clear q30); (try clear hx30); (try clear c32); (try clear c33); (try clear c35); (try clear c39); (try clear c40); (try clear c42); (try clear c45); (try clear c46); (try clear c48); (try clear c52); (try clear c53); (try clear c55); (try clear c55b0); (try clear c55b1); (try clear c56); (try clear c56b0); (try clear c56b1); (try clear c56b2); (try clear c57); (try clear c57b0); (try clear c57b1); (try clear c57b2); (try clear c59); (try clear c60); (try clear c62); (try clear p64); (try clear c66); (try clear c67); (try clear c69); (try clear c72); (try clear c73); (try clear c75); (try clear c78); (try clear c78b0); (try clear c78b1); (try clear c79); (try clear c80); (try clear c85); (try clear c86); (try clear c89); (try clear c93); (try clear c93b0); (try clear c95); (try clear c95b0); (try clear c96); (try clear c96b0); (try clear c97); (try clear c97b0); (try clear c98); (try clear c98b0); (try clear c102); (try clear hcz17_0); (try clear hcz17_1); (try clear hcz17_2); (try clear hcz17_3); (try clear hcz21_0); (try clear hcz21_1); (try clear hcz21_2); (try clear hcz21_3); (try clear hcz26_0); (try clear hcz26_1); (try clear hcz26_2); (try clear hcz26_3); (try clear hcz27_0); (try clear hcz27_1); (try clear hcz27_2); (try clear hcz27_3); (try clear hcz34_0); (try clear hcz34_1); (try clear hcz34_2); (try clear hcz34_3); (try clear hcz36_0); (try clear hcz36_1); (try clear hcz36_2); (try clear hcz36_3); (try clear hcz41_0); (try clear hcz41_1); (try clear hcz41_2); (try clear hcz41_3); (try clear hcz43_0); (try clear hcz43_1); (try clear hcz43_2); (try clear hcz43_3); (try clear hcz47_0); (try clear hcz47_1); (try clear hcz47_2); (try clear hcz47_3); (try clear hcz49_0); (try clear hcz49_1); (try clear hcz49_2); (try clear hcz49_3); (try clear hcz54_0); (try clear hcz54_1); (try clear hcz54_2); (try clear hcz54_3); (try clear hcz61_0); (try clear hcz61_1); (try clear hcz61_2); (try clear hcz61_3); (try clear hcz63_0); (try clear hcz63_1); (try clear hcz63_2); (try clear hcz63_3); (try clear hcz68_0); (try clear hcz68_1); (try clear hcz68_2); (try clear hcz68_3); (try clear hcz70_0); (try clear hcz70_1); (try clear hcz70_2); (try clear hcz70_3); (try clear hcz74_0); (try clear hcz74_1); (try clear hcz74_2); (try clear hcz74_3); (try clear hcz76_0); (try clear hcz76_1); (try clear hcz76_2); (try clear hcz76_3); (try clear hcz81_0); (try clear hcz81_1); (try clear hcz81_2); (try clear hcz81_3); (try clear hcz87_0); (try clear hcz87_1); (try clear hcz87_2); (try clear hcz87_3); (try clear hfz17_0); (try clear hfz17_1); (try clear hfz17_2); (try clear hfz17_3); (try clear hfz21_0); (try clear hfz21_1); (try clear hfz21_2); (try clear hfz21_3); (try clear hfz26_0); (try clear hfz26_1); (try clear hfz26_2); (try clear hfz26_3); (try clear hfz27_0); (try clear hfz27_1); (try clear hfz27_2); (try clear hfz27_3); (try clear hfz34_0); (try clear hfz34_1); (try clear hfz34_2); (try clear hfz34_3); (try clear hfz36_0); (try clear hfz36_1); (try clear hfz36_2); (try clear hfz36_3); (try clear hfz41_0); (try clear hfz41_1); (try clear hfz41_2); (try clear hfz41_3); (try clear hfz43_0); (try clear hfz43_1); (try clear hfz43_2); (try clear hfz43_3); (try clear hfz47_0); (try clear hfz47_1); (try clear hfz47_2); (try clear hfz47_3); (try clear hfz49_0); (try clear hfz49_1); (try clear hfz49_2); (try clear hfz49_3); (try clear hfz54_0); (try clear hfz54_1); (try clear hfz54_2); (try clear hfz54_3); (try clear hfz61_0); (try clear hfz61_1); (try clear hfz61_2); (try clear hfz61_3); (try clear hfz63_0); (try clear hfz63_1); (try clear hfz63_2); (try clear hfz63_3); (try clear hfz68_0); (try clear hfz68_1); (try clear hfz68_2); (try clear hfz68_3); (try clear hfz70_0); (try clear hfz70_1); (try clear hfz70_2); (try clear hfz70_3); (try clear hfz74_0); (try clear hfz74_1); (try clear hfz74_2); (try clear hfz74_3); (try clear hfz76_0); (try clear hfz76_1); (try clear hfz76_2); (try clear hfz76_3); (try clear hfz81_0); (try clear hfz81_1); (try clear hfz81_2); (try clear hfz81_3); (try clear hfz87_0); (try clear hfz87_1); (try clear hfz87_2); (try clear hfz87_3); (try clear hx301_0); (try clear hx301_1); (try clear hx301_2); (try clear hx301_3); (try clear hx301_4); (try clear hx302_0); (try clear hx302_1); (try clear hx302_2); (try clear hx302_3); (try clear hx302_4); (try clear p301); (try clear p302); (try clear q301); (try clear q302)
                       obtain ⟨kq, HA, HJ100, HO_5, HO_7, HO_9, BK281, BK289, BK297, HB⟩ := hcut
                       cases kq with
                       | zero => exact absurd HA.out (by simp [sortilegelaw05_LexerLines.j9])
                       | succ kj100 =>
                        have H := HA.out
                        clear HA
                        simp only [sortilegelaw05_LexerLines.j9] at H
                        by_cases c103 : x12_7 ≥ (wrap64 ((t274.length : Int) - 1))
                        ·rw [if_pos c103] at H
                         have c103b0 : decide ((wrap64 ((t274.length : Int) - 1)) ≤ x12_7) = true := decide_eq_true c103
                         clear c103
                         obtain ⟨ji104, hji104⟩ : ∃ j_ : Int, (wrap64 ((wrap64 (x12_7 - (t274.length : Int))) + 1)) = j_ := ⟨_, rfl⟩
                         replace H : (if 0 ≤ (ji104) then (if (ji104) < (t282.length : Int) then (if 0 ≤ x12_7 then (if x12_7 < (t290.length : Int) then (if (!(((rd_T36 t290 x12_7).f0) == ((rd_T36 t282 (ji104)).f0)) || (!((((rd_T36 t290 x12_7).f1).toList) == (((rd_T36 t282 (ji104)).f1).toList)) || (!(((rd_T36 t290 x12_7).f2) == ((rd_T36 t282 (ji104)).f2)) || (!(((rd_T36 t290 x12_7).f3) == (wrap64 (((rd_T36 t282 (ji104)).f3) + t299))) || (!(((rd_T36 t290 x12_7).f4) == ((rd_T36 t282 (ji104)).f4))))))) = true then (some false) else (sortilegelaw05_LexerLines.l0 kj100 t274 t282 t290 t299 (wrap64 (x12_7 + 1)))) else (none)) else (none)) else (none)) else (none)) = some r := by first | (rw [hji104] at H; exact H) | (simp only [hji104] at H ⊢; exact H)
                         have hji104w : (IntKind.i64.wrap ((wrap64 (x12_7 - (t274.length : Int))) + 1)) = ji104 := (i64_w _).trans hji104
                         by_cases c105 : 0 ≤ (ji104)
                         ·rw [if_pos c105] at H
                          have c105b0 : decide (0 ≤ (ji104)) = true := decide_eq_true c105
                          clear c105
                          by_cases c106 : (ji104) < (t282.length : Int)
                          ·rw [if_pos c106] at H
                           have c106b0 : decide ((ji104) < (t282.length : Int)) = true := decide_eq_true c106
                           clear c106
                           by_cases c107 : 0 ≤ x12_7
                           ·rw [if_pos c107] at H
                            have c107b0 : decide (0 ≤ x12_7) = true := decide_eq_true c107
                            clear c107
                            by_cases c108 : x12_7 < (t290.length : Int)
                            ·rw [if_pos c108] at H
                             have c108b0 : decide (x12_7 < (t290.length : Int)) = true := decide_eq_true c108
                             clear c108
                             by_cases c109 : (!(((rd_T36 t290 x12_7).f0) == ((rd_T36 t282 (ji104)).f0)) || (!((((rd_T36 t290 x12_7).f1).toList) == (((rd_T36 t282 (ji104)).f1).toList)) || (!(((rd_T36 t290 x12_7).f2) == ((rd_T36 t282 (ji104)).f2)) || (!(((rd_T36 t290 x12_7).f3) == (wrap64 (((rd_T36 t282 (ji104)).f3) + t299))) || (!(((rd_T36 t290 x12_7).f4) == ((rd_T36 t282 (ji104)).f4))))))) = true
                             ·rw [if_pos c109] at H
                              have c109b0 : (!(((rd_T36 t290 x12_7).f0) == ((rd_T36 t282 (ji104)).f0)) || (!((((rd_T36 t290 x12_7).f1).toList) == (((rd_T36 t282 (ji104)).f1).toList)) || (!(((rd_T36 t290 x12_7).f2) == ((rd_T36 t282 (ji104)).f2)) || (!(((rd_T36 t290 x12_7).f3) == (wrap64 (((rd_T36 t282 (ji104)).f3) + t299))) || (!(((rd_T36 t290 x12_7).f4) == ((rd_T36 t282 (ji104)).f4))))))) = true := c109
                              clear c109
                              obtain rfl := Option.some.inj H
                              obtain ⟨Ao110, co110, eo110⟩ := Kd.R_slice HO_5.out
                              subst eo110
                              obtain ⟨Ao111, co111, eo111⟩ := Kd.R_slice HO_7.out
                              subst eo111
                              have p303 : 0 ≤ ((ji104) : Int) := of_decide_eq_true (by first | (with_reducible assumption) | assumption)
                              have q303 : (ji104) < (t282.length : Int) := of_decide_eq_true (by first | (with_reducible assumption) | assumption)
                              obtain ⟨ad303, e303, hx303_0, hx303_1, hx303_2, hx303_3, hx303_4⟩ := at_T36 (Kd.R_reads' HO_7.out).2.2 (ji104) p303 q303
                              cases e303
                              replace p303 := eq_true p303
                              replace q303 := eq_true q303
                              go_wp2_with (first | ((with_reducible refine gate_dst (N := 13) rfl ?_); (try (refine gate_guard (by rfl) ?_; dsimp only)); refine box_event ?hg (N := 13) ?hd (cs := #[.int .i64 0, .string (⟨#[]⟩ : ByteArray), .int .i64 0, .int .i64 0, .int .i64 0]) (t := 36) ?hr ?_; (case hd => rfl); (case hg => rfl); (case hr => first | (go_simp; done) | (go_simp; rfl)); intro gb304 hg w112 hbox hb; have n0_ := Aside0.mk (Kd.R_below (Kd.R_elderB (by (with_reducible repeat (first | apply Kd.R_alloc | apply Kd.R_drewN | apply Kd.R_drew)); exact HO_5.out) gb304 (Nat.le_of_eq hg.symm)) hb); have n1_ := Aside0.mk (Kd.R_below (Kd.R_elderB (by (with_reducible repeat (first | apply Kd.R_alloc | apply Kd.R_drewN | apply Kd.R_drew)); exact HO_7.out) gb304 (Nat.le_of_eq hg.symm)) hb); have n2_ := Aside0.mk (Kd.R_below (Kd.R_elderB (by (with_reducible repeat (first | apply Kd.R_alloc | apply Kd.R_drewN | apply Kd.R_drew)); exact HO_9.out) gb304 (Nat.le_of_eq hg.symm)) hb); have n3_ := Aside0.mk (blk_below (g := gb281) (o := .cells #[.int .i64 t277, .string t278, .int .i64 t279, .int .i64 t280] 26 (0, 0)) (by (with_reducible repeat (first | refine blk_drewN ?_ _ | refine blk_drew ?_ | refine blk_alloc ?_ _)); exact BK281.out) hb); have n4_ := Aside0.mk (blk_below (g := gb289) (o := .cells #[.int .i64 t285, .string t286, .int .i64 x290002_50, .int .i64 t288] 26 (0, 0)) (by (with_reducible repeat (first | refine blk_drewN ?_ _ | refine blk_drew ?_ | refine blk_alloc ?_ _)); exact BK289.out) hb); have n5_ := Aside0.mk (blk_below (g := gb297) (o := .cells #[.int .i64 t293, .string t294, .int .i64 t295, .int .i64 t296] 26 (0, 0)) (by (with_reducible repeat (first | refine blk_drewN ?_ _ | refine blk_drew ?_ | refine blk_alloc ?_ _)); exact BK297.out) hb); have n6_ := Aside0.mk (below_step (by repeat (first | (with_reducible first | exact HB.out | apply below_alloc | apply pw_below_drewN | apply below_drew1 | refine below_set ?_ GE281.out | refine below_set ?_ GE289.out | refine below_set ?_ GE297.out) | exact HB.out)) hb); have n7_ := Aside0.mk (hbox); have n8_ := Aside0.mk ((by rw [hg]; exact (below_size (by repeat (first | (with_reducible first | exact HB.out | apply below_alloc | apply pw_below_drewN | apply below_drew1 | refine below_set ?_ GE281.out | refine below_set ?_ GE289.out | refine below_set ?_ GE297.out) | exact HB.out))) : w.heap.size ≤ gb304)); have n9_ := Aside0.mk ((by rw [hg]; exact (below_size (by repeat (first | (with_reducible first | exact HB.out | apply below_alloc | apply pw_below_drewN | apply below_drew1 | refine below_set ?_ GE281.out | refine below_set ?_ GE289.out | refine below_set ?_ GE297.out) | exact HB.out))) : w.heap.size ≤ gb304)); have n10_ := Aside0.mk ((by rw [hg]; exact Nat.ne_of_lt (blk_lt (g := gb281) (o := .cells #[.int .i64 t277, .string t278, .int .i64 t279, .int .i64 t280] 26 (0, 0)) (by (with_reducible repeat (first | refine blk_drewN ?_ _ | refine blk_drew ?_ | refine blk_alloc ?_ _)); exact BK281.out)) : gb281 ≠ gb304)); have n11_ := Aside0.mk ((by rw [hg]; exact Nat.ne_of_gt (blk_lt (g := gb281) (o := .cells #[.int .i64 t277, .string t278, .int .i64 t279, .int .i64 t280] 26 (0, 0)) (by (with_reducible repeat (first | refine blk_drewN ?_ _ | refine blk_drew ?_ | refine blk_alloc ?_ _)); exact BK281.out)) : gb304 ≠ gb281)); have n12_ := Aside0.mk ((by rw [hg]; exact Nat.ne_of_lt (blk_lt (g := gb289) (o := .cells #[.int .i64 t285, .string t286, .int .i64 x290002_50, .int .i64 t288] 26 (0, 0)) (by (with_reducible repeat (first | refine blk_drewN ?_ _ | refine blk_drew ?_ | refine blk_alloc ?_ _)); exact BK289.out)) : gb289 ≠ gb304)); have n13_ := Aside0.mk ((by rw [hg]; exact Nat.ne_of_gt (blk_lt (g := gb289) (o := .cells #[.int .i64 t285, .string t286, .int .i64 x290002_50, .int .i64 t288] 26 (0, 0)) (by (with_reducible repeat (first | refine blk_drewN ?_ _ | refine blk_drew ?_ | refine blk_alloc ?_ _)); exact BK289.out)) : gb304 ≠ gb289)); have n14_ := Aside0.mk ((by rw [hg]; exact Nat.ne_of_lt (blk_lt (g := gb297) (o := .cells #[.int .i64 t293, .string t294, .int .i64 t295, .int .i64 t296] 26 (0, 0)) (by (with_reducible repeat (first | refine blk_drewN ?_ _ | refine blk_drew ?_ | refine blk_alloc ?_ _)); exact BK297.out)) : gb297 ≠ gb304)); have n15_ := Aside0.mk ((by rw [hg]; exact Nat.ne_of_gt (blk_lt (g := gb297) (o := .cells #[.int .i64 t293, .string t294, .int .i64 t295, .int .i64 t296] 26 (0, 0)) (by (with_reducible repeat (first | refine blk_drewN ?_ _ | refine blk_drew ?_ | refine blk_alloc ?_ _)); exact BK297.out)) : gb304 ≠ gb297)); clear HO_5; clear HO_7; clear HO_9; clear BK281; clear BK289; clear BK297; clear HB; have HO_5 := n0_; have HO_7 := n1_; have HO_9 := n2_; have BK281 := n3_; have BK289 := n4_; have BK297 := n5_; have HB := n6_; have BK304 := n7_; have GW304 := n8_; have GE304 := n9_; have NB281_304 := n10_; have NB304_281 := n11_; have NB289_304 := n12_; have NB304_289 := n13_; have NB297_304 := n14_; have NB304_297 := n15_; clear n0_ n1_ n2_ n3_ n4_ n5_ n6_ n7_ n8_ n9_ n10_ n11_ n12_ n13_ n14_ n15_; clear hb hbox hg; have hnb113 := NB304_281.out; have hnc113 := NB281_304.out; have hnb114 := NB304_289.out; have hnc114 := NB289_304.out; have hnb115 := NB304_297.out; have hnc115 := NB297_304.out; have hcz116_0 : w112.cell? ⟨gb304, 0, none⟩ = some (.int .i64 0) := (blk_cell BK304.out 0).trans rfl; have hcz116_1 : w112.cell? ⟨gb304, 1, none⟩ = some (.string (⟨#[]⟩ : ByteArray)) := (blk_cell BK304.out 1).trans rfl; have hcz116_2 : w112.cell? ⟨gb304, 2, none⟩ = some (.int .i64 0) := (blk_cell BK304.out 2).trans rfl; have hcz116_3 : w112.cell? ⟨gb304, 3, none⟩ = some (.int .i64 0) := (blk_cell BK304.out 3).trans rfl; have hcz116_4 : w112.cell? ⟨gb304, 4, none⟩ = some (.int .i64 0) := (blk_cell BK304.out 4).trans rfl; have hfz116_0 := blk_frozen BK304.out 0; have hfz116_1 := blk_frozen BK304.out 1; have hfz116_2 := blk_frozen BK304.out 2; have hfz116_3 := blk_frozen BK304.out 3; have hfz116_4 := blk_frozen BK304.out 4; have p305 : 0 ≤ (x12_7 : Int) := of_decide_eq_true (by first | (with_reducible assumption) | assumption); have q305 : x12_7 < (t290.length : Int) := of_decide_eq_true (by first | (with_reducible assumption) | assumption); obtain ⟨ad305, e305, hx305_0, hx305_1, hx305_2, hx305_3, hx305_4⟩ := at_T36 (Kd.R_reads' HO_9.out).2.2 x12_7 p305 q305; cases e305; have hn305_0 : ad305.block ≠ gb304 := Kd.own_blk (fun he_ => (HO_9.out.1 _ he_.symm).2 rfl); have hn305_1 : ad305.block ≠ gb304 := Kd.own_blk (fun he_ => (HO_9.out.1 _ he_.symm).2 rfl); have hn305_2 : ad305.block ≠ gb304 := Kd.own_blk (fun he_ => (HO_9.out.1 _ he_.symm).2 rfl); have hn305_3 : ad305.block ≠ gb304 := Kd.own_blk (fun he_ => (HO_9.out.1 _ he_.symm).2 rfl); have hn305_4 : ad305.block ≠ gb304 := Kd.own_blk (fun he_ => (HO_9.out.1 _ he_.symm).2 rfl); have hn305_5 : ad305.block ≠ gb304 := Kd.own_blk (fun he_ => (HO_9.out.1 _ he_.symm).2 rfl); have hy305_0 := fun (n_ : Nat) => (show (w112.drewN n_).cell? _ = some _ from hx305_0); have hy305_1 := fun (n_ : Nat) => (show (w112.drewN n_).cell? _ = some _ from hx305_1); have hy305_2 := fun (n_ : Nat) => (show (w112.drewN n_).cell? _ = some _ from hx305_2); have hy305_3 := fun (n_ : Nat) => (show (w112.drewN n_).cell? _ = some _ from hx305_3); have hy305_4 := fun (n_ : Nat) => (show (w112.drewN n_).cell? _ = some _ from hx305_4); replace hx305_0 := (cell_far (p := ⟨gb304, 0, none⟩) (by first | (rw [add_block]; exact hn305_0) | (show (Addr.add _ _).block ≠ _; rw [add_block]; exact hn305_0) | exact hn305_0) (.int .i64 ((rd_T36 t282 (ji104)).f0))).trans hx305_0; replace hy305_0 := fun (n_ : Nat) => (cell_far (p := ⟨gb304, 0, none⟩) (by first | (rw [add_block]; exact hn305_0) | (show (Addr.add _ _).block ≠ _; rw [add_block]; exact hn305_0) | exact hn305_0) (.int .i64 ((rd_T36 t282 (ji104)).f0))).trans (hy305_0 n_); replace hx305_1 := (cell_far (p := ⟨gb304, 0, none⟩) (by first | (rw [add_block]; exact hn305_0) | (show (Addr.add _ _).block ≠ _; rw [add_block]; exact hn305_0) | exact hn305_0) (.int .i64 ((rd_T36 t282 (ji104)).f0))).trans hx305_1; replace hy305_1 := fun (n_ : Nat) => (cell_far (p := ⟨gb304, 0, none⟩) (by first | (rw [add_block]; exact hn305_0) | (show (Addr.add _ _).block ≠ _; rw [add_block]; exact hn305_0) | exact hn305_0) (.int .i64 ((rd_T36 t282 (ji104)).f0))).trans (hy305_1 n_); replace hx305_2 := (cell_far (p := ⟨gb304, 0, none⟩) (by first | (rw [add_block]; exact hn305_0) | (show (Addr.add _ _).block ≠ _; rw [add_block]; exact hn305_0) | exact hn305_0) (.int .i64 ((rd_T36 t282 (ji104)).f0))).trans hx305_2; replace hy305_2 := fun (n_ : Nat) => (cell_far (p := ⟨gb304, 0, none⟩) (by first | (rw [add_block]; exact hn305_0) | (show (Addr.add _ _).block ≠ _; rw [add_block]; exact hn305_0) | exact hn305_0) (.int .i64 ((rd_T36 t282 (ji104)).f0))).trans (hy305_2 n_); replace hx305_3 := (cell_far (p := ⟨gb304, 0, none⟩) (by first | (rw [add_block]; exact hn305_0) | (show (Addr.add _ _).block ≠ _; rw [add_block]; exact hn305_0) | exact hn305_0) (.int .i64 ((rd_T36 t282 (ji104)).f0))).trans hx305_3; replace hy305_3 := fun (n_ : Nat) => (cell_far (p := ⟨gb304, 0, none⟩) (by first | (rw [add_block]; exact hn305_0) | (show (Addr.add _ _).block ≠ _; rw [add_block]; exact hn305_0) | exact hn305_0) (.int .i64 ((rd_T36 t282 (ji104)).f0))).trans (hy305_3 n_); replace hx305_4 := (cell_far (p := ⟨gb304, 0, none⟩) (by first | (rw [add_block]; exact hn305_0) | (show (Addr.add _ _).block ≠ _; rw [add_block]; exact hn305_0) | exact hn305_0) (.int .i64 ((rd_T36 t282 (ji104)).f0))).trans hx305_4; replace hy305_4 := fun (n_ : Nat) => (cell_far (p := ⟨gb304, 0, none⟩) (by first | (rw [add_block]; exact hn305_0) | (show (Addr.add _ _).block ≠ _; rw [add_block]; exact hn305_0) | exact hn305_0) (.int .i64 ((rd_T36 t282 (ji104)).f0))).trans (hy305_4 n_); replace hx305_0 := (cell_far (p := ⟨gb304, 1, none⟩) (by first | (rw [add_block]; exact hn305_1) | (show (Addr.add _ _).block ≠ _; rw [add_block]; exact hn305_1) | exact hn305_1) (.string ((rd_T36 t282 (ji104)).f1))).trans hx305_0; replace hy305_0 := fun (n_ : Nat) => (cell_far (p := ⟨gb304, 1, none⟩) (by first | (rw [add_block]; exact hn305_1) | (show (Addr.add _ _).block ≠ _; rw [add_block]; exact hn305_1) | exact hn305_1) (.string ((rd_T36 t282 (ji104)).f1))).trans (hy305_0 n_); replace hx305_1 := (cell_far (p := ⟨gb304, 1, none⟩) (by first | (rw [add_block]; exact hn305_1) | (show (Addr.add _ _).block ≠ _; rw [add_block]; exact hn305_1) | exact hn305_1) (.string ((rd_T36 t282 (ji104)).f1))).trans hx305_1; replace hy305_1 := fun (n_ : Nat) => (cell_far (p := ⟨gb304, 1, none⟩) (by first | (rw [add_block]; exact hn305_1) | (show (Addr.add _ _).block ≠ _; rw [add_block]; exact hn305_1) | exact hn305_1) (.string ((rd_T36 t282 (ji104)).f1))).trans (hy305_1 n_); replace hx305_2 := (cell_far (p := ⟨gb304, 1, none⟩) (by first | (rw [add_block]; exact hn305_1) | (show (Addr.add _ _).block ≠ _; rw [add_block]; exact hn305_1) | exact hn305_1) (.string ((rd_T36 t282 (ji104)).f1))).trans hx305_2; replace hy305_2 := fun (n_ : Nat) => (cell_far (p := ⟨gb304, 1, none⟩) (by first | (rw [add_block]; exact hn305_1) | (show (Addr.add _ _).block ≠ _; rw [add_block]; exact hn305_1) | exact hn305_1) (.string ((rd_T36 t282 (ji104)).f1))).trans (hy305_2 n_); replace hx305_3 := (cell_far (p := ⟨gb304, 1, none⟩) (by first | (rw [add_block]; exact hn305_1) | (show (Addr.add _ _).block ≠ _; rw [add_block]; exact hn305_1) | exact hn305_1) (.string ((rd_T36 t282 (ji104)).f1))).trans hx305_3; replace hy305_3 := fun (n_ : Nat) => (cell_far (p := ⟨gb304, 1, none⟩) (by first | (rw [add_block]; exact hn305_1) | (show (Addr.add _ _).block ≠ _; rw [add_block]; exact hn305_1) | exact hn305_1) (.string ((rd_T36 t282 (ji104)).f1))).trans (hy305_3 n_); replace hx305_4 := (cell_far (p := ⟨gb304, 1, none⟩) (by first | (rw [add_block]; exact hn305_1) | (show (Addr.add _ _).block ≠ _; rw [add_block]; exact hn305_1) | exact hn305_1) (.string ((rd_T36 t282 (ji104)).f1))).trans hx305_4; replace hy305_4 := fun (n_ : Nat) => (cell_far (p := ⟨gb304, 1, none⟩) (by first | (rw [add_block]; exact hn305_1) | (show (Addr.add _ _).block ≠ _; rw [add_block]; exact hn305_1) | exact hn305_1) (.string ((rd_T36 t282 (ji104)).f1))).trans (hy305_4 n_); replace hx305_0 := (cell_far (p := ⟨gb304, 2, none⟩) (by first | (rw [add_block]; exact hn305_2) | (show (Addr.add _ _).block ≠ _; rw [add_block]; exact hn305_2) | exact hn305_2) (.int .i64 ((rd_T36 t282 (ji104)).f2))).trans hx305_0; replace hy305_0 := fun (n_ : Nat) => (cell_far (p := ⟨gb304, 2, none⟩) (by first | (rw [add_block]; exact hn305_2) | (show (Addr.add _ _).block ≠ _; rw [add_block]; exact hn305_2) | exact hn305_2) (.int .i64 ((rd_T36 t282 (ji104)).f2))).trans (hy305_0 n_); replace hx305_1 := (cell_far (p := ⟨gb304, 2, none⟩) (by first | (rw [add_block]; exact hn305_2) | (show (Addr.add _ _).block ≠ _; rw [add_block]; exact hn305_2) | exact hn305_2) (.int .i64 ((rd_T36 t282 (ji104)).f2))).trans hx305_1; replace hy305_1 := fun (n_ : Nat) => (cell_far (p := ⟨gb304, 2, none⟩) (by first | (rw [add_block]; exact hn305_2) | (show (Addr.add _ _).block ≠ _; rw [add_block]; exact hn305_2) | exact hn305_2) (.int .i64 ((rd_T36 t282 (ji104)).f2))).trans (hy305_1 n_); replace hx305_2 := (cell_far (p := ⟨gb304, 2, none⟩) (by first | (rw [add_block]; exact hn305_2) | (show (Addr.add _ _).block ≠ _; rw [add_block]; exact hn305_2) | exact hn305_2) (.int .i64 ((rd_T36 t282 (ji104)).f2))).trans hx305_2; replace hy305_2 := fun (n_ : Nat) => (cell_far (p := ⟨gb304, 2, none⟩) (by first | (rw [add_block]; exact hn305_2) | (show (Addr.add _ _).block ≠ _; rw [add_block]; exact hn305_2) | exact hn305_2) (.int .i64 ((rd_T36 t282 (ji104)).f2))).trans (hy305_2 n_); replace hx305_3 := (cell_far (p := ⟨gb304, 2, none⟩) (by first | (rw [add_block]; exact hn305_2) | (show (Addr.add _ _).block ≠ _; rw [add_block]; exact hn305_2) | exact hn305_2) (.int .i64 ((rd_T36 t282 (ji104)).f2))).trans hx305_3; replace hy305_3 := fun (n_ : Nat) => (cell_far (p := ⟨gb304, 2, none⟩) (by first | (rw [add_block]; exact hn305_2) | (show (Addr.add _ _).block ≠ _; rw [add_block]; exact hn305_2) | exact hn305_2) (.int .i64 ((rd_T36 t282 (ji104)).f2))).trans (hy305_3 n_); replace hx305_4 := (cell_far (p := ⟨gb304, 2, none⟩) (by first | (rw [add_block]; exact hn305_2) | (show (Addr.add _ _).block ≠ _; rw [add_block]; exact hn305_2) | exact hn305_2) (.int .i64 ((rd_T36 t282 (ji104)).f2))).trans hx305_4; replace hy305_4 := fun (n_ : Nat) => (cell_far (p := ⟨gb304, 2, none⟩) (by first | (rw [add_block]; exact hn305_2) | (show (Addr.add _ _).block ≠ _; rw [add_block]; exact hn305_2) | exact hn305_2) (.int .i64 ((rd_T36 t282 (ji104)).f2))).trans (hy305_4 n_); replace hx305_0 := (cell_far (p := ⟨gb304, 3, none⟩) (by first | (rw [add_block]; exact hn305_3) | (show (Addr.add _ _).block ≠ _; rw [add_block]; exact hn305_3) | exact hn305_3) (.int .i64 ((rd_T36 t282 (ji104)).f3))).trans hx305_0; replace hy305_0 := fun (n_ : Nat) => (cell_far (p := ⟨gb304, 3, none⟩) (by first | (rw [add_block]; exact hn305_3) | (show (Addr.add _ _).block ≠ _; rw [add_block]; exact hn305_3) | exact hn305_3) (.int .i64 ((rd_T36 t282 (ji104)).f3))).trans (hy305_0 n_); replace hx305_1 := (cell_far (p := ⟨gb304, 3, none⟩) (by first | (rw [add_block]; exact hn305_3) | (show (Addr.add _ _).block ≠ _; rw [add_block]; exact hn305_3) | exact hn305_3) (.int .i64 ((rd_T36 t282 (ji104)).f3))).trans hx305_1; replace hy305_1 := fun (n_ : Nat) => (cell_far (p := ⟨gb304, 3, none⟩) (by first | (rw [add_block]; exact hn305_3) | (show (Addr.add _ _).block ≠ _; rw [add_block]; exact hn305_3) | exact hn305_3) (.int .i64 ((rd_T36 t282 (ji104)).f3))).trans (hy305_1 n_); replace hx305_2 := (cell_far (p := ⟨gb304, 3, none⟩) (by first | (rw [add_block]; exact hn305_3) | (show (Addr.add _ _).block ≠ _; rw [add_block]; exact hn305_3) | exact hn305_3) (.int .i64 ((rd_T36 t282 (ji104)).f3))).trans hx305_2; replace hy305_2 := fun (n_ : Nat) => (cell_far (p := ⟨gb304, 3, none⟩) (by first | (rw [add_block]; exact hn305_3) | (show (Addr.add _ _).block ≠ _; rw [add_block]; exact hn305_3) | exact hn305_3) (.int .i64 ((rd_T36 t282 (ji104)).f3))).trans (hy305_2 n_); replace hx305_3 := (cell_far (p := ⟨gb304, 3, none⟩) (by first | (rw [add_block]; exact hn305_3) | (show (Addr.add _ _).block ≠ _; rw [add_block]; exact hn305_3) | exact hn305_3) (.int .i64 ((rd_T36 t282 (ji104)).f3))).trans hx305_3; replace hy305_3 := fun (n_ : Nat) => (cell_far (p := ⟨gb304, 3, none⟩) (by first | (rw [add_block]; exact hn305_3) | (show (Addr.add _ _).block ≠ _; rw [add_block]; exact hn305_3) | exact hn305_3) (.int .i64 ((rd_T36 t282 (ji104)).f3))).trans (hy305_3 n_); replace hx305_4 := (cell_far (p := ⟨gb304, 3, none⟩) (by first | (rw [add_block]; exact hn305_3) | (show (Addr.add _ _).block ≠ _; rw [add_block]; exact hn305_3) | exact hn305_3) (.int .i64 ((rd_T36 t282 (ji104)).f3))).trans hx305_4; replace hy305_4 := fun (n_ : Nat) => (cell_far (p := ⟨gb304, 3, none⟩) (by first | (rw [add_block]; exact hn305_3) | (show (Addr.add _ _).block ≠ _; rw [add_block]; exact hn305_3) | exact hn305_3) (.int .i64 ((rd_T36 t282 (ji104)).f3))).trans (hy305_4 n_); replace hx305_0 := (cell_far (p := ⟨gb304, 4, none⟩) (by first | (rw [add_block]; exact hn305_4) | (show (Addr.add _ _).block ≠ _; rw [add_block]; exact hn305_4) | exact hn305_4) (.int .i64 ((rd_T36 t282 (ji104)).f4))).trans hx305_0; replace hy305_0 := fun (n_ : Nat) => (cell_far (p := ⟨gb304, 4, none⟩) (by first | (rw [add_block]; exact hn305_4) | (show (Addr.add _ _).block ≠ _; rw [add_block]; exact hn305_4) | exact hn305_4) (.int .i64 ((rd_T36 t282 (ji104)).f4))).trans (hy305_0 n_); replace hx305_1 := (cell_far (p := ⟨gb304, 4, none⟩) (by first | (rw [add_block]; exact hn305_4) | (show (Addr.add _ _).block ≠ _; rw [add_block]; exact hn305_4) | exact hn305_4) (.int .i64 ((rd_T36 t282 (ji104)).f4))).trans hx305_1; replace hy305_1 := fun (n_ : Nat) => (cell_far (p := ⟨gb304, 4, none⟩) (by first | (rw [add_block]; exact hn305_4) | (show (Addr.add _ _).block ≠ _; rw [add_block]; exact hn305_4) | exact hn305_4) (.int .i64 ((rd_T36 t282 (ji104)).f4))).trans (hy305_1 n_); replace hx305_2 := (cell_far (p := ⟨gb304, 4, none⟩) (by first | (rw [add_block]; exact hn305_4) | (show (Addr.add _ _).block ≠ _; rw [add_block]; exact hn305_4) | exact hn305_4) (.int .i64 ((rd_T36 t282 (ji104)).f4))).trans hx305_2; replace hy305_2 := fun (n_ : Nat) => (cell_far (p := ⟨gb304, 4, none⟩) (by first | (rw [add_block]; exact hn305_4) | (show (Addr.add _ _).block ≠ _; rw [add_block]; exact hn305_4) | exact hn305_4) (.int .i64 ((rd_T36 t282 (ji104)).f4))).trans (hy305_2 n_); replace hx305_3 := (cell_far (p := ⟨gb304, 4, none⟩) (by first | (rw [add_block]; exact hn305_4) | (show (Addr.add _ _).block ≠ _; rw [add_block]; exact hn305_4) | exact hn305_4) (.int .i64 ((rd_T36 t282 (ji104)).f4))).trans hx305_3; replace hy305_3 := fun (n_ : Nat) => (cell_far (p := ⟨gb304, 4, none⟩) (by first | (rw [add_block]; exact hn305_4) | (show (Addr.add _ _).block ≠ _; rw [add_block]; exact hn305_4) | exact hn305_4) (.int .i64 ((rd_T36 t282 (ji104)).f4))).trans (hy305_3 n_); replace hx305_4 := (cell_far (p := ⟨gb304, 4, none⟩) (by first | (rw [add_block]; exact hn305_4) | (show (Addr.add _ _).block ≠ _; rw [add_block]; exact hn305_4) | exact hn305_4) (.int .i64 ((rd_T36 t282 (ji104)).f4))).trans hx305_4; replace hy305_4 := fun (n_ : Nat) => (cell_far (p := ⟨gb304, 4, none⟩) (by first | (rw [add_block]; exact hn305_4) | (show (Addr.add _ _).block ≠ _; rw [add_block]; exact hn305_4) | exact hn305_4) (.int .i64 ((rd_T36 t282 (ji104)).f4))).trans (hy305_4 n_); replace hx305_0 := (cell_far (p := ⟨gb304, 3, none⟩) (by first | (rw [add_block]; exact hn305_5) | (show (Addr.add _ _).block ≠ _; rw [add_block]; exact hn305_5) | exact hn305_5) (.int .i64 (wrap64 (((rd_T36 t282 (ji104)).f3) + t299)))).trans hx305_0; replace hy305_0 := fun (n_ : Nat) => (cell_far (p := ⟨gb304, 3, none⟩) (by first | (rw [add_block]; exact hn305_5) | (show (Addr.add _ _).block ≠ _; rw [add_block]; exact hn305_5) | exact hn305_5) (.int .i64 (wrap64 (((rd_T36 t282 (ji104)).f3) + t299)))).trans (hy305_0 n_); replace hx305_1 := (cell_far (p := ⟨gb304, 3, none⟩) (by first | (rw [add_block]; exact hn305_5) | (show (Addr.add _ _).block ≠ _; rw [add_block]; exact hn305_5) | exact hn305_5) (.int .i64 (wrap64 (((rd_T36 t282 (ji104)).f3) + t299)))).trans hx305_1; replace hy305_1 := fun (n_ : Nat) => (cell_far (p := ⟨gb304, 3, none⟩) (by first | (rw [add_block]; exact hn305_5) | (show (Addr.add _ _).block ≠ _; rw [add_block]; exact hn305_5) | exact hn305_5) (.int .i64 (wrap64 (((rd_T36 t282 (ji104)).f3) + t299)))).trans (hy305_1 n_); replace hx305_2 := (cell_far (p := ⟨gb304, 3, none⟩) (by first | (rw [add_block]; exact hn305_5) | (show (Addr.add _ _).block ≠ _; rw [add_block]; exact hn305_5) | exact hn305_5) (.int .i64 (wrap64 (((rd_T36 t282 (ji104)).f3) + t299)))).trans hx305_2; replace hy305_2 := fun (n_ : Nat) => (cell_far (p := ⟨gb304, 3, none⟩) (by first | (rw [add_block]; exact hn305_5) | (show (Addr.add _ _).block ≠ _; rw [add_block]; exact hn305_5) | exact hn305_5) (.int .i64 (wrap64 (((rd_T36 t282 (ji104)).f3) + t299)))).trans (hy305_2 n_); replace hx305_3 := (cell_far (p := ⟨gb304, 3, none⟩) (by first | (rw [add_block]; exact hn305_5) | (show (Addr.add _ _).block ≠ _; rw [add_block]; exact hn305_5) | exact hn305_5) (.int .i64 (wrap64 (((rd_T36 t282 (ji104)).f3) + t299)))).trans hx305_3; replace hy305_3 := fun (n_ : Nat) => (cell_far (p := ⟨gb304, 3, none⟩) (by first | (rw [add_block]; exact hn305_5) | (show (Addr.add _ _).block ≠ _; rw [add_block]; exact hn305_5) | exact hn305_5) (.int .i64 (wrap64 (((rd_T36 t282 (ji104)).f3) + t299)))).trans (hy305_3 n_); replace hx305_4 := (cell_far (p := ⟨gb304, 3, none⟩) (by first | (rw [add_block]; exact hn305_5) | (show (Addr.add _ _).block ≠ _; rw [add_block]; exact hn305_5) | exact hn305_5) (.int .i64 (wrap64 (((rd_T36 t282 (ji104)).f3) + t299)))).trans hx305_4; replace hy305_4 := fun (n_ : Nat) => (cell_far (p := ⟨gb304, 3, none⟩) (by first | (rw [add_block]; exact hn305_5) | (show (Addr.add _ _).block ≠ _; rw [add_block]; exact hn305_5) | exact hn305_5) (.int .i64 (wrap64 (((rd_T36 t282 (ji104)).f3) + t299)))).trans (hy305_4 n_); clear hn305_0; clear hn305_1; clear hn305_2; clear hn305_3; clear hn305_4; clear hn305_5; replace p305 := eq_true p305; replace q305 := eq_true q305) | ((with_reducible refine gate_dst (N := 135) rfl ?_); (try (refine gate_guard (by rfl) ?_; dsimp only)); refine wpList_load_row rfl 36 (.tmp 13) rfl gb304 rfl 36 #[.int .i64 ((rd_T36 t282 (ji104)).f0), .string ((rd_T36 t282 (ji104)).f1), .int .i64 ((rd_T36 t282 (ji104)).f2), .int .i64 (wrap64 (((rd_T36 t282 (ji104)).f3) + t299)), .int .i64 ((rd_T36 t282 (ji104)).f4)] (0, 0) _ (by (with_reducible repeat (first | refine blk_drewN ?_ _ | refine blk_drew ?_ | refine blk_alloc ?_ _)); refine blk_put (cs := #[.int .i64 ((rd_T36 t282 (ji104)).f0), .string ((rd_T36 t282 (ji104)).f1), .int .i64 ((rd_T36 t282 (ji104)).f2), .int .i64 ((rd_T36 t282 (ji104)).f3), .int .i64 ((rd_T36 t282 (ji104)).f4)]) ?_ 3 _ rfl; (with_reducible repeat (first | refine blk_drewN ?_ _ | refine blk_drew ?_ | refine blk_alloc ?_ _)); refine blk_put (cs := #[.int .i64 ((rd_T36 t282 (ji104)).f0), .string ((rd_T36 t282 (ji104)).f1), .int .i64 ((rd_T36 t282 (ji104)).f2), .int .i64 ((rd_T36 t282 (ji104)).f3), .int .i64 0]) ?_ 4 _ rfl; (with_reducible repeat (first | refine blk_drewN ?_ _ | refine blk_drew ?_ | refine blk_alloc ?_ _)); refine blk_put (cs := #[.int .i64 ((rd_T36 t282 (ji104)).f0), .string ((rd_T36 t282 (ji104)).f1), .int .i64 ((rd_T36 t282 (ji104)).f2), .int .i64 0, .int .i64 0]) ?_ 3 _ rfl; (with_reducible repeat (first | refine blk_drewN ?_ _ | refine blk_drew ?_ | refine blk_alloc ?_ _)); refine blk_put (cs := #[.int .i64 ((rd_T36 t282 (ji104)).f0), .string ((rd_T36 t282 (ji104)).f1), .int .i64 0, .int .i64 0, .int .i64 0]) ?_ 2 _ rfl; (with_reducible repeat (first | refine blk_drewN ?_ _ | refine blk_drew ?_ | refine blk_alloc ?_ _)); refine blk_put (cs := #[.int .i64 ((rd_T36 t282 (ji104)).f0), .string (⟨#[]⟩ : ByteArray), .int .i64 0, .int .i64 0, .int .i64 0]) ?_ 1 _ rfl; (with_reducible repeat (first | refine blk_drewN ?_ _ | refine blk_drew ?_ | refine blk_alloc ?_ _)); refine blk_put (cs := #[.int .i64 0, .string (⟨#[]⟩ : ByteArray), .int .i64 0, .int .i64 0, .int .i64 0]) ?_ 0 _ rfl; (with_reducible repeat (first | refine blk_drewN ?_ _ | refine blk_drew ?_ | refine blk_alloc ?_ _)); exact BK304.out) Try.underlying36 rfl (by kernel_rfl) ?_))
                              refine wp_region_quiet_lit (by kernel_rfl) (by kernel_rfl) ?_
                              repeat (go_big_quiet_step (fail))
                              refine BigFrame.wpQuiet_want rfl fun K_ hK_ => quiet_load_row 36 (.tmp 13) rfl gb304 rfl 36 #[.int .i64 ((rd_T36 t282 (ji104)).f0), .string ((rd_T36 t282 (ji104)).f1), .int .i64 ((rd_T36 t282 (ji104)).f2), .int .i64 (wrap64 (((rd_T36 t282 (ji104)).f3) + t299)), .int .i64 ((rd_T36 t282 (ji104)).f4)] (0, 0) _ (by rintro _ ⟨n_, rfl⟩; exact (by (with_reducible repeat (first | refine blk_drewN ?_ _ | refine blk_drew ?_ | refine blk_alloc ?_ _)); refine blk_put (cs := #[.int .i64 ((rd_T36 t282 (ji104)).f0), .string ((rd_T36 t282 (ji104)).f1), .int .i64 ((rd_T36 t282 (ji104)).f2), .int .i64 ((rd_T36 t282 (ji104)).f3), .int .i64 ((rd_T36 t282 (ji104)).f4)]) ?_ 3 _ rfl; (with_reducible repeat (first | refine blk_drewN ?_ _ | refine blk_drew ?_ | refine blk_alloc ?_ _)); refine blk_put (cs := #[.int .i64 ((rd_T36 t282 (ji104)).f0), .string ((rd_T36 t282 (ji104)).f1), .int .i64 ((rd_T36 t282 (ji104)).f2), .int .i64 ((rd_T36 t282 (ji104)).f3), .int .i64 0]) ?_ 4 _ rfl; (with_reducible repeat (first | refine blk_drewN ?_ _ | refine blk_drew ?_ | refine blk_alloc ?_ _)); refine blk_put (cs := #[.int .i64 ((rd_T36 t282 (ji104)).f0), .string ((rd_T36 t282 (ji104)).f1), .int .i64 ((rd_T36 t282 (ji104)).f2), .int .i64 0, .int .i64 0]) ?_ 3 _ rfl; (with_reducible repeat (first | refine blk_drewN ?_ _ | refine blk_drew ?_ | refine blk_alloc ?_ _)); refine blk_put (cs := #[.int .i64 ((rd_T36 t282 (ji104)).f0), .string ((rd_T36 t282 (ji104)).f1), .int .i64 0, .int .i64 0, .int .i64 0]) ?_ 2 _ rfl; (with_reducible repeat (first | refine blk_drewN ?_ _ | refine blk_drew ?_ | refine blk_alloc ?_ _)); refine blk_put (cs := #[.int .i64 ((rd_T36 t282 (ji104)).f0), .string (⟨#[]⟩ : ByteArray), .int .i64 0, .int .i64 0, .int .i64 0]) ?_ 1 _ rfl; (with_reducible repeat (first | refine blk_drewN ?_ _ | refine blk_drew ?_ | refine blk_alloc ?_ _)); refine blk_put (cs := #[.int .i64 0, .string (⟨#[]⟩ : ByteArray), .int .i64 0, .int .i64 0, .int .i64 0]) ?_ 0 _ rfl; (with_reducible repeat (first | refine blk_drewN ?_ _ | refine blk_drew ?_ | refine blk_alloc ?_ _)); exact BK304.out)) Try.underlying36 rfl (by kernel_rfl) (hK_ _ ?_)
                              clear hK_ K_
                              simp only [Act.put, List.setIfInBounds_toArray, List.set_cons_succ, List.set_cons_zero]
                              repeat (go_big_quiet_step (fail))
                              refine wpQuiet_nil ?_
                              intro _ hw'
                              obtain ⟨nq, hw''⟩ := hw'
                              subst hw''
                              go_wp2_with (fail)
                              go_ret
                              exact ⟨by first | rfl | (simp [errW_none, errW_some] <;> rfl) | (simp only [← hji104]; first | rfl | (simp [errW_none, errW_some] <;> rfl)) | (simp [*, errW_none, errW_some] <;> rfl), by repeat (first | (with_reducible first | exact HB.out | apply below_alloc | apply pw_below_drewN | apply below_drew1 | refine below_set ?_ GE281.out | refine below_set ?_ GE289.out | refine below_set ?_ GE297.out | refine below_set ?_ GE304.out) | exact HB.out)⟩
                             ·rw [if_neg c109] at H
                              have c109b0 : (!(((rd_T36 t290 x12_7).f0) == ((rd_T36 t282 (ji104)).f0)) || (!((((rd_T36 t290 x12_7).f1).toList) == (((rd_T36 t282 (ji104)).f1).toList)) || (!(((rd_T36 t290 x12_7).f2) == ((rd_T36 t282 (ji104)).f2)) || (!(((rd_T36 t290 x12_7).f3) == (wrap64 (((rd_T36 t282 (ji104)).f3) + t299))) || (!(((rd_T36 t290 x12_7).f4) == ((rd_T36 t282 (ji104)).f4))))))) = false := by simpa using c109
                              clear c109
                              have H' := Aside0.mk H
                              clear H
                              obtain ⟨Ao117, co117, eo117⟩ := Kd.R_slice HO_5.out
                              subst eo117
                              obtain ⟨Ao118, co118, eo118⟩ := Kd.R_slice HO_7.out
                              subst eo118
                              have p303 : 0 ≤ ((ji104) : Int) := of_decide_eq_true (by first | (with_reducible assumption) | assumption)
                              have q303 : (ji104) < (t282.length : Int) := of_decide_eq_true (by first | (with_reducible assumption) | assumption)
                              obtain ⟨ad303, e303, hx303_0, hx303_1, hx303_2, hx303_3, hx303_4⟩ := at_T36 (Kd.R_reads' HO_7.out).2.2 (ji104) p303 q303
                              cases e303
                              replace p303 := eq_true p303
                              replace q303 := eq_true q303
                              go_wp2_with (first | ((with_reducible refine gate_dst (N := 13) rfl ?_); (try (refine gate_guard (by rfl) ?_; dsimp only)); refine box_event ?hg (N := 13) ?hd (cs := #[.int .i64 0, .string (⟨#[]⟩ : ByteArray), .int .i64 0, .int .i64 0, .int .i64 0]) (t := 36) ?hr ?_; (case hd => rfl); (case hg => rfl); (case hr => first | (go_simp; done) | (go_simp; rfl)); intro gb304 hg w119 hbox hb; have n0_ := Aside0.mk (Kd.R_below (Kd.R_elderB (by (with_reducible repeat (first | apply Kd.R_alloc | apply Kd.R_drewN | apply Kd.R_drew)); exact HO_5.out) gb304 (Nat.le_of_eq hg.symm)) hb); have n1_ := Aside0.mk (Kd.R_below (Kd.R_elderB (by (with_reducible repeat (first | apply Kd.R_alloc | apply Kd.R_drewN | apply Kd.R_drew)); exact HO_7.out) gb304 (Nat.le_of_eq hg.symm)) hb); have n2_ := Aside0.mk (Kd.R_below (Kd.R_elderB (by (with_reducible repeat (first | apply Kd.R_alloc | apply Kd.R_drewN | apply Kd.R_drew)); exact HO_9.out) gb304 (Nat.le_of_eq hg.symm)) hb); have n3_ := Aside0.mk (blk_below (g := gb281) (o := .cells #[.int .i64 t277, .string t278, .int .i64 t279, .int .i64 t280] 26 (0, 0)) (by (with_reducible repeat (first | refine blk_drewN ?_ _ | refine blk_drew ?_ | refine blk_alloc ?_ _)); exact BK281.out) hb); have n4_ := Aside0.mk (blk_below (g := gb289) (o := .cells #[.int .i64 t285, .string t286, .int .i64 x290002_50, .int .i64 t288] 26 (0, 0)) (by (with_reducible repeat (first | refine blk_drewN ?_ _ | refine blk_drew ?_ | refine blk_alloc ?_ _)); exact BK289.out) hb); have n5_ := Aside0.mk (blk_below (g := gb297) (o := .cells #[.int .i64 t293, .string t294, .int .i64 t295, .int .i64 t296] 26 (0, 0)) (by (with_reducible repeat (first | refine blk_drewN ?_ _ | refine blk_drew ?_ | refine blk_alloc ?_ _)); exact BK297.out) hb); have n6_ := Aside0.mk (below_step (by repeat (first | (with_reducible first | exact HB.out | apply below_alloc | apply pw_below_drewN | apply below_drew1 | refine below_set ?_ GE281.out | refine below_set ?_ GE289.out | refine below_set ?_ GE297.out) | exact HB.out)) hb); have n7_ := Aside0.mk (hbox); have n8_ := Aside0.mk ((by rw [hg]; exact (below_size (by repeat (first | (with_reducible first | exact HB.out | apply below_alloc | apply pw_below_drewN | apply below_drew1 | refine below_set ?_ GE281.out | refine below_set ?_ GE289.out | refine below_set ?_ GE297.out) | exact HB.out))) : w.heap.size ≤ gb304)); have n9_ := Aside0.mk ((by rw [hg]; exact (below_size (by repeat (first | (with_reducible first | exact HB.out | apply below_alloc | apply pw_below_drewN | apply below_drew1 | refine below_set ?_ GE281.out | refine below_set ?_ GE289.out | refine below_set ?_ GE297.out) | exact HB.out))) : w.heap.size ≤ gb304)); have n10_ := Aside0.mk ((by rw [hg]; exact Nat.ne_of_lt (blk_lt (g := gb281) (o := .cells #[.int .i64 t277, .string t278, .int .i64 t279, .int .i64 t280] 26 (0, 0)) (by (with_reducible repeat (first | refine blk_drewN ?_ _ | refine blk_drew ?_ | refine blk_alloc ?_ _)); exact BK281.out)) : gb281 ≠ gb304)); have n11_ := Aside0.mk ((by rw [hg]; exact Nat.ne_of_gt (blk_lt (g := gb281) (o := .cells #[.int .i64 t277, .string t278, .int .i64 t279, .int .i64 t280] 26 (0, 0)) (by (with_reducible repeat (first | refine blk_drewN ?_ _ | refine blk_drew ?_ | refine blk_alloc ?_ _)); exact BK281.out)) : gb304 ≠ gb281)); have n12_ := Aside0.mk ((by rw [hg]; exact Nat.ne_of_lt (blk_lt (g := gb289) (o := .cells #[.int .i64 t285, .string t286, .int .i64 x290002_50, .int .i64 t288] 26 (0, 0)) (by (with_reducible repeat (first | refine blk_drewN ?_ _ | refine blk_drew ?_ | refine blk_alloc ?_ _)); exact BK289.out)) : gb289 ≠ gb304)); have n13_ := Aside0.mk ((by rw [hg]; exact Nat.ne_of_gt (blk_lt (g := gb289) (o := .cells #[.int .i64 t285, .string t286, .int .i64 x290002_50, .int .i64 t288] 26 (0, 0)) (by (with_reducible repeat (first | refine blk_drewN ?_ _ | refine blk_drew ?_ | refine blk_alloc ?_ _)); exact BK289.out)) : gb304 ≠ gb289)); have n14_ := Aside0.mk ((by rw [hg]; exact Nat.ne_of_lt (blk_lt (g := gb297) (o := .cells #[.int .i64 t293, .string t294, .int .i64 t295, .int .i64 t296] 26 (0, 0)) (by (with_reducible repeat (first | refine blk_drewN ?_ _ | refine blk_drew ?_ | refine blk_alloc ?_ _)); exact BK297.out)) : gb297 ≠ gb304)); have n15_ := Aside0.mk ((by rw [hg]; exact Nat.ne_of_gt (blk_lt (g := gb297) (o := .cells #[.int .i64 t293, .string t294, .int .i64 t295, .int .i64 t296] 26 (0, 0)) (by (with_reducible repeat (first | refine blk_drewN ?_ _ | refine blk_drew ?_ | refine blk_alloc ?_ _)); exact BK297.out)) : gb304 ≠ gb297)); clear HO_5; clear HO_7; clear HO_9; clear BK281; clear BK289; clear BK297; clear HB; have HO_5 := n0_; have HO_7 := n1_; have HO_9 := n2_; have BK281 := n3_; have BK289 := n4_; have BK297 := n5_; have HB := n6_; have BK304 := n7_; have GW304 := n8_; have GE304 := n9_; have NB281_304 := n10_; have NB304_281 := n11_; have NB289_304 := n12_; have NB304_289 := n13_; have NB297_304 := n14_; have NB304_297 := n15_; clear n0_ n1_ n2_ n3_ n4_ n5_ n6_ n7_ n8_ n9_ n10_ n11_ n12_ n13_ n14_ n15_; clear hb hbox hg; have hnb120 := NB304_281.out; have hnc120 := NB281_304.out; have hnb121 := NB304_289.out; have hnc121 := NB289_304.out; have hnb122 := NB304_297.out; have hnc122 := NB297_304.out; have hcz123_0 : w119.cell? ⟨gb304, 0, none⟩ = some (.int .i64 0) := (blk_cell BK304.out 0).trans rfl; have hcz123_1 : w119.cell? ⟨gb304, 1, none⟩ = some (.string (⟨#[]⟩ : ByteArray)) := (blk_cell BK304.out 1).trans rfl; have hcz123_2 : w119.cell? ⟨gb304, 2, none⟩ = some (.int .i64 0) := (blk_cell BK304.out 2).trans rfl; have hcz123_3 : w119.cell? ⟨gb304, 3, none⟩ = some (.int .i64 0) := (blk_cell BK304.out 3).trans rfl; have hcz123_4 : w119.cell? ⟨gb304, 4, none⟩ = some (.int .i64 0) := (blk_cell BK304.out 4).trans rfl; have hfz123_0 := blk_frozen BK304.out 0; have hfz123_1 := blk_frozen BK304.out 1; have hfz123_2 := blk_frozen BK304.out 2; have hfz123_3 := blk_frozen BK304.out 3; have hfz123_4 := blk_frozen BK304.out 4; have p305 : 0 ≤ (x12_7 : Int) := of_decide_eq_true (by first | (with_reducible assumption) | assumption); have q305 : x12_7 < (t290.length : Int) := of_decide_eq_true (by first | (with_reducible assumption) | assumption); obtain ⟨ad305, e305, hx305_0, hx305_1, hx305_2, hx305_3, hx305_4⟩ := at_T36 (Kd.R_reads' HO_9.out).2.2 x12_7 p305 q305; cases e305; have hn305_0 : ad305.block ≠ gb304 := Kd.own_blk (fun he_ => (HO_9.out.1 _ he_.symm).2 rfl); have hn305_1 : ad305.block ≠ gb304 := Kd.own_blk (fun he_ => (HO_9.out.1 _ he_.symm).2 rfl); have hn305_2 : ad305.block ≠ gb304 := Kd.own_blk (fun he_ => (HO_9.out.1 _ he_.symm).2 rfl); have hn305_3 : ad305.block ≠ gb304 := Kd.own_blk (fun he_ => (HO_9.out.1 _ he_.symm).2 rfl); have hn305_4 : ad305.block ≠ gb304 := Kd.own_blk (fun he_ => (HO_9.out.1 _ he_.symm).2 rfl); have hn305_5 : ad305.block ≠ gb304 := Kd.own_blk (fun he_ => (HO_9.out.1 _ he_.symm).2 rfl); have hy305_0 := fun (n_ : Nat) => (show (w119.drewN n_).cell? _ = some _ from hx305_0); have hy305_1 := fun (n_ : Nat) => (show (w119.drewN n_).cell? _ = some _ from hx305_1); have hy305_2 := fun (n_ : Nat) => (show (w119.drewN n_).cell? _ = some _ from hx305_2); have hy305_3 := fun (n_ : Nat) => (show (w119.drewN n_).cell? _ = some _ from hx305_3); have hy305_4 := fun (n_ : Nat) => (show (w119.drewN n_).cell? _ = some _ from hx305_4); replace hx305_0 := (cell_far (p := ⟨gb304, 0, none⟩) (by first | (rw [add_block]; exact hn305_0) | (show (Addr.add _ _).block ≠ _; rw [add_block]; exact hn305_0) | exact hn305_0) (.int .i64 ((rd_T36 t282 (ji104)).f0))).trans hx305_0; replace hy305_0 := fun (n_ : Nat) => (cell_far (p := ⟨gb304, 0, none⟩) (by first | (rw [add_block]; exact hn305_0) | (show (Addr.add _ _).block ≠ _; rw [add_block]; exact hn305_0) | exact hn305_0) (.int .i64 ((rd_T36 t282 (ji104)).f0))).trans (hy305_0 n_); replace hx305_1 := (cell_far (p := ⟨gb304, 0, none⟩) (by first | (rw [add_block]; exact hn305_0) | (show (Addr.add _ _).block ≠ _; rw [add_block]; exact hn305_0) | exact hn305_0) (.int .i64 ((rd_T36 t282 (ji104)).f0))).trans hx305_1; replace hy305_1 := fun (n_ : Nat) => (cell_far (p := ⟨gb304, 0, none⟩) (by first | (rw [add_block]; exact hn305_0) | (show (Addr.add _ _).block ≠ _; rw [add_block]; exact hn305_0) | exact hn305_0) (.int .i64 ((rd_T36 t282 (ji104)).f0))).trans (hy305_1 n_); replace hx305_2 := (cell_far (p := ⟨gb304, 0, none⟩) (by first | (rw [add_block]; exact hn305_0) | (show (Addr.add _ _).block ≠ _; rw [add_block]; exact hn305_0) | exact hn305_0) (.int .i64 ((rd_T36 t282 (ji104)).f0))).trans hx305_2; replace hy305_2 := fun (n_ : Nat) => (cell_far (p := ⟨gb304, 0, none⟩) (by first | (rw [add_block]; exact hn305_0) | (show (Addr.add _ _).block ≠ _; rw [add_block]; exact hn305_0) | exact hn305_0) (.int .i64 ((rd_T36 t282 (ji104)).f0))).trans (hy305_2 n_); replace hx305_3 := (cell_far (p := ⟨gb304, 0, none⟩) (by first | (rw [add_block]; exact hn305_0) | (show (Addr.add _ _).block ≠ _; rw [add_block]; exact hn305_0) | exact hn305_0) (.int .i64 ((rd_T36 t282 (ji104)).f0))).trans hx305_3; replace hy305_3 := fun (n_ : Nat) => (cell_far (p := ⟨gb304, 0, none⟩) (by first | (rw [add_block]; exact hn305_0) | (show (Addr.add _ _).block ≠ _; rw [add_block]; exact hn305_0) | exact hn305_0) (.int .i64 ((rd_T36 t282 (ji104)).f0))).trans (hy305_3 n_); replace hx305_4 := (cell_far (p := ⟨gb304, 0, none⟩) (by first | (rw [add_block]; exact hn305_0) | (show (Addr.add _ _).block ≠ _; rw [add_block]; exact hn305_0) | exact hn305_0) (.int .i64 ((rd_T36 t282 (ji104)).f0))).trans hx305_4; replace hy305_4 := fun (n_ : Nat) => (cell_far (p := ⟨gb304, 0, none⟩) (by first | (rw [add_block]; exact hn305_0) | (show (Addr.add _ _).block ≠ _; rw [add_block]; exact hn305_0) | exact hn305_0) (.int .i64 ((rd_T36 t282 (ji104)).f0))).trans (hy305_4 n_); replace hx305_0 := (cell_far (p := ⟨gb304, 1, none⟩) (by first | (rw [add_block]; exact hn305_1) | (show (Addr.add _ _).block ≠ _; rw [add_block]; exact hn305_1) | exact hn305_1) (.string ((rd_T36 t282 (ji104)).f1))).trans hx305_0; replace hy305_0 := fun (n_ : Nat) => (cell_far (p := ⟨gb304, 1, none⟩) (by first | (rw [add_block]; exact hn305_1) | (show (Addr.add _ _).block ≠ _; rw [add_block]; exact hn305_1) | exact hn305_1) (.string ((rd_T36 t282 (ji104)).f1))).trans (hy305_0 n_); replace hx305_1 := (cell_far (p := ⟨gb304, 1, none⟩) (by first | (rw [add_block]; exact hn305_1) | (show (Addr.add _ _).block ≠ _; rw [add_block]; exact hn305_1) | exact hn305_1) (.string ((rd_T36 t282 (ji104)).f1))).trans hx305_1; replace hy305_1 := fun (n_ : Nat) => (cell_far (p := ⟨gb304, 1, none⟩) (by first | (rw [add_block]; exact hn305_1) | (show (Addr.add _ _).block ≠ _; rw [add_block]; exact hn305_1) | exact hn305_1) (.string ((rd_T36 t282 (ji104)).f1))).trans (hy305_1 n_); replace hx305_2 := (cell_far (p := ⟨gb304, 1, none⟩) (by first | (rw [add_block]; exact hn305_1) | (show (Addr.add _ _).block ≠ _; rw [add_block]; exact hn305_1) | exact hn305_1) (.string ((rd_T36 t282 (ji104)).f1))).trans hx305_2; replace hy305_2 := fun (n_ : Nat) => (cell_far (p := ⟨gb304, 1, none⟩) (by first | (rw [add_block]; exact hn305_1) | (show (Addr.add _ _).block ≠ _; rw [add_block]; exact hn305_1) | exact hn305_1) (.string ((rd_T36 t282 (ji104)).f1))).trans (hy305_2 n_); replace hx305_3 := (cell_far (p := ⟨gb304, 1, none⟩) (by first | (rw [add_block]; exact hn305_1) | (show (Addr.add _ _).block ≠ _; rw [add_block]; exact hn305_1) | exact hn305_1) (.string ((rd_T36 t282 (ji104)).f1))).trans hx305_3; replace hy305_3 := fun (n_ : Nat) => (cell_far (p := ⟨gb304, 1, none⟩) (by first | (rw [add_block]; exact hn305_1) | (show (Addr.add _ _).block ≠ _; rw [add_block]; exact hn305_1) | exact hn305_1) (.string ((rd_T36 t282 (ji104)).f1))).trans (hy305_3 n_); replace hx305_4 := (cell_far (p := ⟨gb304, 1, none⟩) (by first | (rw [add_block]; exact hn305_1) | (show (Addr.add _ _).block ≠ _; rw [add_block]; exact hn305_1) | exact hn305_1) (.string ((rd_T36 t282 (ji104)).f1))).trans hx305_4; replace hy305_4 := fun (n_ : Nat) => (cell_far (p := ⟨gb304, 1, none⟩) (by first | (rw [add_block]; exact hn305_1) | (show (Addr.add _ _).block ≠ _; rw [add_block]; exact hn305_1) | exact hn305_1) (.string ((rd_T36 t282 (ji104)).f1))).trans (hy305_4 n_); replace hx305_0 := (cell_far (p := ⟨gb304, 2, none⟩) (by first | (rw [add_block]; exact hn305_2) | (show (Addr.add _ _).block ≠ _; rw [add_block]; exact hn305_2) | exact hn305_2) (.int .i64 ((rd_T36 t282 (ji104)).f2))).trans hx305_0; replace hy305_0 := fun (n_ : Nat) => (cell_far (p := ⟨gb304, 2, none⟩) (by first | (rw [add_block]; exact hn305_2) | (show (Addr.add _ _).block ≠ _; rw [add_block]; exact hn305_2) | exact hn305_2) (.int .i64 ((rd_T36 t282 (ji104)).f2))).trans (hy305_0 n_); replace hx305_1 := (cell_far (p := ⟨gb304, 2, none⟩) (by first | (rw [add_block]; exact hn305_2) | (show (Addr.add _ _).block ≠ _; rw [add_block]; exact hn305_2) | exact hn305_2) (.int .i64 ((rd_T36 t282 (ji104)).f2))).trans hx305_1; replace hy305_1 := fun (n_ : Nat) => (cell_far (p := ⟨gb304, 2, none⟩) (by first | (rw [add_block]; exact hn305_2) | (show (Addr.add _ _).block ≠ _; rw [add_block]; exact hn305_2) | exact hn305_2) (.int .i64 ((rd_T36 t282 (ji104)).f2))).trans (hy305_1 n_); replace hx305_2 := (cell_far (p := ⟨gb304, 2, none⟩) (by first | (rw [add_block]; exact hn305_2) | (show (Addr.add _ _).block ≠ _; rw [add_block]; exact hn305_2) | exact hn305_2) (.int .i64 ((rd_T36 t282 (ji104)).f2))).trans hx305_2; replace hy305_2 := fun (n_ : Nat) => (cell_far (p := ⟨gb304, 2, none⟩) (by first | (rw [add_block]; exact hn305_2) | (show (Addr.add _ _).block ≠ _; rw [add_block]; exact hn305_2) | exact hn305_2) (.int .i64 ((rd_T36 t282 (ji104)).f2))).trans (hy305_2 n_); replace hx305_3 := (cell_far (p := ⟨gb304, 2, none⟩) (by first | (rw [add_block]; exact hn305_2) | (show (Addr.add _ _).block ≠ _; rw [add_block]; exact hn305_2) | exact hn305_2) (.int .i64 ((rd_T36 t282 (ji104)).f2))).trans hx305_3; replace hy305_3 := fun (n_ : Nat) => (cell_far (p := ⟨gb304, 2, none⟩) (by first | (rw [add_block]; exact hn305_2) | (show (Addr.add _ _).block ≠ _; rw [add_block]; exact hn305_2) | exact hn305_2) (.int .i64 ((rd_T36 t282 (ji104)).f2))).trans (hy305_3 n_); replace hx305_4 := (cell_far (p := ⟨gb304, 2, none⟩) (by first | (rw [add_block]; exact hn305_2) | (show (Addr.add _ _).block ≠ _; rw [add_block]; exact hn305_2) | exact hn305_2) (.int .i64 ((rd_T36 t282 (ji104)).f2))).trans hx305_4; replace hy305_4 := fun (n_ : Nat) => (cell_far (p := ⟨gb304, 2, none⟩) (by first | (rw [add_block]; exact hn305_2) | (show (Addr.add _ _).block ≠ _; rw [add_block]; exact hn305_2) | exact hn305_2) (.int .i64 ((rd_T36 t282 (ji104)).f2))).trans (hy305_4 n_); replace hx305_0 := (cell_far (p := ⟨gb304, 3, none⟩) (by first | (rw [add_block]; exact hn305_3) | (show (Addr.add _ _).block ≠ _; rw [add_block]; exact hn305_3) | exact hn305_3) (.int .i64 ((rd_T36 t282 (ji104)).f3))).trans hx305_0; replace hy305_0 := fun (n_ : Nat) => (cell_far (p := ⟨gb304, 3, none⟩) (by first | (rw [add_block]; exact hn305_3) | (show (Addr.add _ _).block ≠ _; rw [add_block]; exact hn305_3) | exact hn305_3) (.int .i64 ((rd_T36 t282 (ji104)).f3))).trans (hy305_0 n_); replace hx305_1 := (cell_far (p := ⟨gb304, 3, none⟩) (by first | (rw [add_block]; exact hn305_3) | (show (Addr.add _ _).block ≠ _; rw [add_block]; exact hn305_3) | exact hn305_3) (.int .i64 ((rd_T36 t282 (ji104)).f3))).trans hx305_1; replace hy305_1 := fun (n_ : Nat) => (cell_far (p := ⟨gb304, 3, none⟩) (by first | (rw [add_block]; exact hn305_3) | (show (Addr.add _ _).block ≠ _; rw [add_block]; exact hn305_3) | exact hn305_3) (.int .i64 ((rd_T36 t282 (ji104)).f3))).trans (hy305_1 n_); replace hx305_2 := (cell_far (p := ⟨gb304, 3, none⟩) (by first | (rw [add_block]; exact hn305_3) | (show (Addr.add _ _).block ≠ _; rw [add_block]; exact hn305_3) | exact hn305_3) (.int .i64 ((rd_T36 t282 (ji104)).f3))).trans hx305_2; replace hy305_2 := fun (n_ : Nat) => (cell_far (p := ⟨gb304, 3, none⟩) (by first | (rw [add_block]; exact hn305_3) | (show (Addr.add _ _).block ≠ _; rw [add_block]; exact hn305_3) | exact hn305_3) (.int .i64 ((rd_T36 t282 (ji104)).f3))).trans (hy305_2 n_); replace hx305_3 := (cell_far (p := ⟨gb304, 3, none⟩) (by first | (rw [add_block]; exact hn305_3) | (show (Addr.add _ _).block ≠ _; rw [add_block]; exact hn305_3) | exact hn305_3) (.int .i64 ((rd_T36 t282 (ji104)).f3))).trans hx305_3; replace hy305_3 := fun (n_ : Nat) => (cell_far (p := ⟨gb304, 3, none⟩) (by first | (rw [add_block]; exact hn305_3) | (show (Addr.add _ _).block ≠ _; rw [add_block]; exact hn305_3) | exact hn305_3) (.int .i64 ((rd_T36 t282 (ji104)).f3))).trans (hy305_3 n_); replace hx305_4 := (cell_far (p := ⟨gb304, 3, none⟩) (by first | (rw [add_block]; exact hn305_3) | (show (Addr.add _ _).block ≠ _; rw [add_block]; exact hn305_3) | exact hn305_3) (.int .i64 ((rd_T36 t282 (ji104)).f3))).trans hx305_4; replace hy305_4 := fun (n_ : Nat) => (cell_far (p := ⟨gb304, 3, none⟩) (by first | (rw [add_block]; exact hn305_3) | (show (Addr.add _ _).block ≠ _; rw [add_block]; exact hn305_3) | exact hn305_3) (.int .i64 ((rd_T36 t282 (ji104)).f3))).trans (hy305_4 n_); replace hx305_0 := (cell_far (p := ⟨gb304, 4, none⟩) (by first | (rw [add_block]; exact hn305_4) | (show (Addr.add _ _).block ≠ _; rw [add_block]; exact hn305_4) | exact hn305_4) (.int .i64 ((rd_T36 t282 (ji104)).f4))).trans hx305_0; replace hy305_0 := fun (n_ : Nat) => (cell_far (p := ⟨gb304, 4, none⟩) (by first | (rw [add_block]; exact hn305_4) | (show (Addr.add _ _).block ≠ _; rw [add_block]; exact hn305_4) | exact hn305_4) (.int .i64 ((rd_T36 t282 (ji104)).f4))).trans (hy305_0 n_); replace hx305_1 := (cell_far (p := ⟨gb304, 4, none⟩) (by first | (rw [add_block]; exact hn305_4) | (show (Addr.add _ _).block ≠ _; rw [add_block]; exact hn305_4) | exact hn305_4) (.int .i64 ((rd_T36 t282 (ji104)).f4))).trans hx305_1; replace hy305_1 := fun (n_ : Nat) => (cell_far (p := ⟨gb304, 4, none⟩) (by first | (rw [add_block]; exact hn305_4) | (show (Addr.add _ _).block ≠ _; rw [add_block]; exact hn305_4) | exact hn305_4) (.int .i64 ((rd_T36 t282 (ji104)).f4))).trans (hy305_1 n_); replace hx305_2 := (cell_far (p := ⟨gb304, 4, none⟩) (by first | (rw [add_block]; exact hn305_4) | (show (Addr.add _ _).block ≠ _; rw [add_block]; exact hn305_4) | exact hn305_4) (.int .i64 ((rd_T36 t282 (ji104)).f4))).trans hx305_2; replace hy305_2 := fun (n_ : Nat) => (cell_far (p := ⟨gb304, 4, none⟩) (by first | (rw [add_block]; exact hn305_4) | (show (Addr.add _ _).block ≠ _; rw [add_block]; exact hn305_4) | exact hn305_4) (.int .i64 ((rd_T36 t282 (ji104)).f4))).trans (hy305_2 n_); replace hx305_3 := (cell_far (p := ⟨gb304, 4, none⟩) (by first | (rw [add_block]; exact hn305_4) | (show (Addr.add _ _).block ≠ _; rw [add_block]; exact hn305_4) | exact hn305_4) (.int .i64 ((rd_T36 t282 (ji104)).f4))).trans hx305_3; replace hy305_3 := fun (n_ : Nat) => (cell_far (p := ⟨gb304, 4, none⟩) (by first | (rw [add_block]; exact hn305_4) | (show (Addr.add _ _).block ≠ _; rw [add_block]; exact hn305_4) | exact hn305_4) (.int .i64 ((rd_T36 t282 (ji104)).f4))).trans (hy305_3 n_); replace hx305_4 := (cell_far (p := ⟨gb304, 4, none⟩) (by first | (rw [add_block]; exact hn305_4) | (show (Addr.add _ _).block ≠ _; rw [add_block]; exact hn305_4) | exact hn305_4) (.int .i64 ((rd_T36 t282 (ji104)).f4))).trans hx305_4; replace hy305_4 := fun (n_ : Nat) => (cell_far (p := ⟨gb304, 4, none⟩) (by first | (rw [add_block]; exact hn305_4) | (show (Addr.add _ _).block ≠ _; rw [add_block]; exact hn305_4) | exact hn305_4) (.int .i64 ((rd_T36 t282 (ji104)).f4))).trans (hy305_4 n_); replace hx305_0 := (cell_far (p := ⟨gb304, 3, none⟩) (by first | (rw [add_block]; exact hn305_5) | (show (Addr.add _ _).block ≠ _; rw [add_block]; exact hn305_5) | exact hn305_5) (.int .i64 (wrap64 (((rd_T36 t282 (ji104)).f3) + t299)))).trans hx305_0; replace hy305_0 := fun (n_ : Nat) => (cell_far (p := ⟨gb304, 3, none⟩) (by first | (rw [add_block]; exact hn305_5) | (show (Addr.add _ _).block ≠ _; rw [add_block]; exact hn305_5) | exact hn305_5) (.int .i64 (wrap64 (((rd_T36 t282 (ji104)).f3) + t299)))).trans (hy305_0 n_); replace hx305_1 := (cell_far (p := ⟨gb304, 3, none⟩) (by first | (rw [add_block]; exact hn305_5) | (show (Addr.add _ _).block ≠ _; rw [add_block]; exact hn305_5) | exact hn305_5) (.int .i64 (wrap64 (((rd_T36 t282 (ji104)).f3) + t299)))).trans hx305_1; replace hy305_1 := fun (n_ : Nat) => (cell_far (p := ⟨gb304, 3, none⟩) (by first | (rw [add_block]; exact hn305_5) | (show (Addr.add _ _).block ≠ _; rw [add_block]; exact hn305_5) | exact hn305_5) (.int .i64 (wrap64 (((rd_T36 t282 (ji104)).f3) + t299)))).trans (hy305_1 n_); replace hx305_2 := (cell_far (p := ⟨gb304, 3, none⟩) (by first | (rw [add_block]; exact hn305_5) | (show (Addr.add _ _).block ≠ _; rw [add_block]; exact hn305_5) | exact hn305_5) (.int .i64 (wrap64 (((rd_T36 t282 (ji104)).f3) + t299)))).trans hx305_2; replace hy305_2 := fun (n_ : Nat) => (cell_far (p := ⟨gb304, 3, none⟩) (by first | (rw [add_block]; exact hn305_5) | (show (Addr.add _ _).block ≠ _; rw [add_block]; exact hn305_5) | exact hn305_5) (.int .i64 (wrap64 (((rd_T36 t282 (ji104)).f3) + t299)))).trans (hy305_2 n_); replace hx305_3 := (cell_far (p := ⟨gb304, 3, none⟩) (by first | (rw [add_block]; exact hn305_5) | (show (Addr.add _ _).block ≠ _; rw [add_block]; exact hn305_5) | exact hn305_5) (.int .i64 (wrap64 (((rd_T36 t282 (ji104)).f3) + t299)))).trans hx305_3; replace hy305_3 := fun (n_ : Nat) => (cell_far (p := ⟨gb304, 3, none⟩) (by first | (rw [add_block]; exact hn305_5) | (show (Addr.add _ _).block ≠ _; rw [add_block]; exact hn305_5) | exact hn305_5) (.int .i64 (wrap64 (((rd_T36 t282 (ji104)).f3) + t299)))).trans (hy305_3 n_); replace hx305_4 := (cell_far (p := ⟨gb304, 3, none⟩) (by first | (rw [add_block]; exact hn305_5) | (show (Addr.add _ _).block ≠ _; rw [add_block]; exact hn305_5) | exact hn305_5) (.int .i64 (wrap64 (((rd_T36 t282 (ji104)).f3) + t299)))).trans hx305_4; replace hy305_4 := fun (n_ : Nat) => (cell_far (p := ⟨gb304, 3, none⟩) (by first | (rw [add_block]; exact hn305_5) | (show (Addr.add _ _).block ≠ _; rw [add_block]; exact hn305_5) | exact hn305_5) (.int .i64 (wrap64 (((rd_T36 t282 (ji104)).f3) + t299)))).trans (hy305_4 n_); clear hn305_0; clear hn305_1; clear hn305_2; clear hn305_3; clear hn305_4; clear hn305_5; replace p305 := eq_true p305; replace q305 := eq_true q305) | ((with_reducible refine gate_dst (N := 135) rfl ?_); (try (refine gate_guard (by rfl) ?_; dsimp only)); refine wpList_load_row rfl 36 (.tmp 13) rfl gb304 rfl 36 #[.int .i64 ((rd_T36 t282 (ji104)).f0), .string ((rd_T36 t282 (ji104)).f1), .int .i64 ((rd_T36 t282 (ji104)).f2), .int .i64 (wrap64 (((rd_T36 t282 (ji104)).f3) + t299)), .int .i64 ((rd_T36 t282 (ji104)).f4)] (0, 0) _ (by (with_reducible repeat (first | refine blk_drewN ?_ _ | refine blk_drew ?_ | refine blk_alloc ?_ _)); refine blk_put (cs := #[.int .i64 ((rd_T36 t282 (ji104)).f0), .string ((rd_T36 t282 (ji104)).f1), .int .i64 ((rd_T36 t282 (ji104)).f2), .int .i64 ((rd_T36 t282 (ji104)).f3), .int .i64 ((rd_T36 t282 (ji104)).f4)]) ?_ 3 _ rfl; (with_reducible repeat (first | refine blk_drewN ?_ _ | refine blk_drew ?_ | refine blk_alloc ?_ _)); refine blk_put (cs := #[.int .i64 ((rd_T36 t282 (ji104)).f0), .string ((rd_T36 t282 (ji104)).f1), .int .i64 ((rd_T36 t282 (ji104)).f2), .int .i64 ((rd_T36 t282 (ji104)).f3), .int .i64 0]) ?_ 4 _ rfl; (with_reducible repeat (first | refine blk_drewN ?_ _ | refine blk_drew ?_ | refine blk_alloc ?_ _)); refine blk_put (cs := #[.int .i64 ((rd_T36 t282 (ji104)).f0), .string ((rd_T36 t282 (ji104)).f1), .int .i64 ((rd_T36 t282 (ji104)).f2), .int .i64 0, .int .i64 0]) ?_ 3 _ rfl; (with_reducible repeat (first | refine blk_drewN ?_ _ | refine blk_drew ?_ | refine blk_alloc ?_ _)); refine blk_put (cs := #[.int .i64 ((rd_T36 t282 (ji104)).f0), .string ((rd_T36 t282 (ji104)).f1), .int .i64 0, .int .i64 0, .int .i64 0]) ?_ 2 _ rfl; (with_reducible repeat (first | refine blk_drewN ?_ _ | refine blk_drew ?_ | refine blk_alloc ?_ _)); refine blk_put (cs := #[.int .i64 ((rd_T36 t282 (ji104)).f0), .string (⟨#[]⟩ : ByteArray), .int .i64 0, .int .i64 0, .int .i64 0]) ?_ 1 _ rfl; (with_reducible repeat (first | refine blk_drewN ?_ _ | refine blk_drew ?_ | refine blk_alloc ?_ _)); refine blk_put (cs := #[.int .i64 0, .string (⟨#[]⟩ : ByteArray), .int .i64 0, .int .i64 0, .int .i64 0]) ?_ 0 _ rfl; (with_reducible repeat (first | refine blk_drewN ?_ _ | refine blk_drew ?_ | refine blk_alloc ?_ _)); exact BK304.out) Try.underlying36 rfl (by kernel_rfl) ?_))
                              refine wp_region_quiet_lit (by kernel_rfl) (by kernel_rfl) ?_
                              repeat (go_big_quiet_step (fail))
                              refine BigFrame.wpQuiet_want rfl fun K_ hK_ => quiet_load_row 36 (.tmp 13) rfl gb304 rfl 36 #[.int .i64 ((rd_T36 t282 (ji104)).f0), .string ((rd_T36 t282 (ji104)).f1), .int .i64 ((rd_T36 t282 (ji104)).f2), .int .i64 (wrap64 (((rd_T36 t282 (ji104)).f3) + t299)), .int .i64 ((rd_T36 t282 (ji104)).f4)] (0, 0) _ (by rintro _ ⟨n_, rfl⟩; exact (by (with_reducible repeat (first | refine blk_drewN ?_ _ | refine blk_drew ?_ | refine blk_alloc ?_ _)); refine blk_put (cs := #[.int .i64 ((rd_T36 t282 (ji104)).f0), .string ((rd_T36 t282 (ji104)).f1), .int .i64 ((rd_T36 t282 (ji104)).f2), .int .i64 ((rd_T36 t282 (ji104)).f3), .int .i64 ((rd_T36 t282 (ji104)).f4)]) ?_ 3 _ rfl; (with_reducible repeat (first | refine blk_drewN ?_ _ | refine blk_drew ?_ | refine blk_alloc ?_ _)); refine blk_put (cs := #[.int .i64 ((rd_T36 t282 (ji104)).f0), .string ((rd_T36 t282 (ji104)).f1), .int .i64 ((rd_T36 t282 (ji104)).f2), .int .i64 ((rd_T36 t282 (ji104)).f3), .int .i64 0]) ?_ 4 _ rfl; (with_reducible repeat (first | refine blk_drewN ?_ _ | refine blk_drew ?_ | refine blk_alloc ?_ _)); refine blk_put (cs := #[.int .i64 ((rd_T36 t282 (ji104)).f0), .string ((rd_T36 t282 (ji104)).f1), .int .i64 ((rd_T36 t282 (ji104)).f2), .int .i64 0, .int .i64 0]) ?_ 3 _ rfl; (with_reducible repeat (first | refine blk_drewN ?_ _ | refine blk_drew ?_ | refine blk_alloc ?_ _)); refine blk_put (cs := #[.int .i64 ((rd_T36 t282 (ji104)).f0), .string ((rd_T36 t282 (ji104)).f1), .int .i64 0, .int .i64 0, .int .i64 0]) ?_ 2 _ rfl; (with_reducible repeat (first | refine blk_drewN ?_ _ | refine blk_drew ?_ | refine blk_alloc ?_ _)); refine blk_put (cs := #[.int .i64 ((rd_T36 t282 (ji104)).f0), .string (⟨#[]⟩ : ByteArray), .int .i64 0, .int .i64 0, .int .i64 0]) ?_ 1 _ rfl; (with_reducible repeat (first | refine blk_drewN ?_ _ | refine blk_drew ?_ | refine blk_alloc ?_ _)); refine blk_put (cs := #[.int .i64 0, .string (⟨#[]⟩ : ByteArray), .int .i64 0, .int .i64 0, .int .i64 0]) ?_ 0 _ rfl; (with_reducible repeat (first | refine blk_drewN ?_ _ | refine blk_drew ?_ | refine blk_alloc ?_ _)); exact BK304.out)) Try.underlying36 rfl (by kernel_rfl) (hK_ _ ?_)
                              clear hK_ K_
                              simp only [Act.put, List.setIfInBounds_toArray, List.set_cons_succ, List.set_cons_zero]
                              repeat (go_big_quiet_step (fail))
                              refine wpQuiet_nil ?_
                              intro _ hw'
                              obtain ⟨nq, hw''⟩ := hw'
                              subst hw''
                              go_wp2_with (fail)
                              go_roundg kj100
                              case measure => have := HJ2.out; have := HJ4.out; have := HJ13.out; have := HJ50.out; have := HJ76.out; have := HJ87.out; have := HK7.out; have := HJ90.out; have := HJ93.out; have := HJ100.out; omega
                              case rel => exact ⟨(wrap64 (x12_7 + 1)), (by first | rfl | (simp; done) | (simp [*]; done)), H', ⟨by have := HJ2.out; have := HJ4.out; have := HJ13.out; have := HJ50.out; have := HJ76.out; have := HJ87.out; have := HK7.out; have := HJ90.out; have := HJ93.out; have := HJ100.out; omega⟩, ⟨by (with_reducible repeat (first | apply Kd.R_alloc | apply Kd.R_drewN | apply Kd.R_drew)); exact Kd.R_mono (Kd.R_far (p := ⟨gb304, 3, none⟩) (Kd.R_far (p := ⟨gb304, 4, none⟩) (Kd.R_far (p := ⟨gb304, 3, none⟩) (Kd.R_far (p := ⟨gb304, 2, none⟩) (Kd.R_far (p := ⟨gb304, 1, none⟩) (Kd.R_far (p := ⟨gb304, 0, none⟩) (Kd.R_mono HO_5.out (fun k_ hk => (⟨hk, hk.2⟩ : _ ∧ k_ ≠ gb304))) (fun _ hk => hk.2) (.int .i64 ((rd_T36 t282 (ji104)).f0))) (fun _ hk => hk.2) (.string ((rd_T36 t282 (ji104)).f1))) (fun _ hk => hk.2) (.int .i64 ((rd_T36 t282 (ji104)).f2))) (fun _ hk => hk.2) (.int .i64 ((rd_T36 t282 (ji104)).f3))) (fun _ hk => hk.2) (.int .i64 ((rd_T36 t282 (ji104)).f4))) (fun _ hk => hk.2) (.int .i64 (wrap64 (((rd_T36 t282 (ji104)).f3) + t299)))) (fun _ hk => ⟨hk.1.1.1, hk.1.1.2⟩)⟩, ⟨by (with_reducible repeat (first | apply Kd.R_alloc | apply Kd.R_drewN | apply Kd.R_drew)); exact Kd.R_mono (Kd.R_far (p := ⟨gb304, 3, none⟩) (Kd.R_far (p := ⟨gb304, 4, none⟩) (Kd.R_far (p := ⟨gb304, 3, none⟩) (Kd.R_far (p := ⟨gb304, 2, none⟩) (Kd.R_far (p := ⟨gb304, 1, none⟩) (Kd.R_far (p := ⟨gb304, 0, none⟩) (Kd.R_mono HO_7.out (fun k_ hk => (⟨hk, hk.2⟩ : _ ∧ k_ ≠ gb304))) (fun _ hk => hk.2) (.int .i64 ((rd_T36 t282 (ji104)).f0))) (fun _ hk => hk.2) (.string ((rd_T36 t282 (ji104)).f1))) (fun _ hk => hk.2) (.int .i64 ((rd_T36 t282 (ji104)).f2))) (fun _ hk => hk.2) (.int .i64 ((rd_T36 t282 (ji104)).f3))) (fun _ hk => hk.2) (.int .i64 ((rd_T36 t282 (ji104)).f4))) (fun _ hk => hk.2) (.int .i64 (wrap64 (((rd_T36 t282 (ji104)).f3) + t299)))) (fun _ hk => ⟨hk.1.1.1, hk.1.1.2⟩)⟩, ⟨by (with_reducible repeat (first | apply Kd.R_alloc | apply Kd.R_drewN | apply Kd.R_drew)); exact Kd.R_mono (Kd.R_far (p := ⟨gb304, 3, none⟩) (Kd.R_far (p := ⟨gb304, 4, none⟩) (Kd.R_far (p := ⟨gb304, 3, none⟩) (Kd.R_far (p := ⟨gb304, 2, none⟩) (Kd.R_far (p := ⟨gb304, 1, none⟩) (Kd.R_far (p := ⟨gb304, 0, none⟩) (Kd.R_mono HO_9.out (fun k_ hk => (⟨hk, hk.2⟩ : _ ∧ k_ ≠ gb304))) (fun _ hk => hk.2) (.int .i64 ((rd_T36 t282 (ji104)).f0))) (fun _ hk => hk.2) (.string ((rd_T36 t282 (ji104)).f1))) (fun _ hk => hk.2) (.int .i64 ((rd_T36 t282 (ji104)).f2))) (fun _ hk => hk.2) (.int .i64 ((rd_T36 t282 (ji104)).f3))) (fun _ hk => hk.2) (.int .i64 ((rd_T36 t282 (ji104)).f4))) (fun _ hk => hk.2) (.int .i64 (wrap64 (((rd_T36 t282 (ji104)).f3) + t299)))) (fun _ hk => ⟨hk.1.1.1, hk.1.1.2⟩)⟩, ⟨by (with_reducible repeat (first | refine blk_drewN ?_ _ | refine blk_drew ?_ | refine blk_alloc ?_ _)); refine blk_far ?_ NB281_304.out _; (with_reducible repeat (first | refine blk_drewN ?_ _ | refine blk_drew ?_ | refine blk_alloc ?_ _)); refine blk_far ?_ NB281_304.out _; (with_reducible repeat (first | refine blk_drewN ?_ _ | refine blk_drew ?_ | refine blk_alloc ?_ _)); refine blk_far ?_ NB281_304.out _; (with_reducible repeat (first | refine blk_drewN ?_ _ | refine blk_drew ?_ | refine blk_alloc ?_ _)); refine blk_far ?_ NB281_304.out _; (with_reducible repeat (first | refine blk_drewN ?_ _ | refine blk_drew ?_ | refine blk_alloc ?_ _)); refine blk_far ?_ NB281_304.out _; (with_reducible repeat (first | refine blk_drewN ?_ _ | refine blk_drew ?_ | refine blk_alloc ?_ _)); refine blk_far ?_ NB281_304.out _; (with_reducible repeat (first | refine blk_drewN ?_ _ | refine blk_drew ?_ | refine blk_alloc ?_ _)); exact BK281.out⟩, ⟨by (with_reducible repeat (first | refine blk_drewN ?_ _ | refine blk_drew ?_ | refine blk_alloc ?_ _)); refine blk_far ?_ NB289_304.out _; (with_reducible repeat (first | refine blk_drewN ?_ _ | refine blk_drew ?_ | refine blk_alloc ?_ _)); refine blk_far ?_ NB289_304.out _; (with_reducible repeat (first | refine blk_drewN ?_ _ | refine blk_drew ?_ | refine blk_alloc ?_ _)); refine blk_far ?_ NB289_304.out _; (with_reducible repeat (first | refine blk_drewN ?_ _ | refine blk_drew ?_ | refine blk_alloc ?_ _)); refine blk_far ?_ NB289_304.out _; (with_reducible repeat (first | refine blk_drewN ?_ _ | refine blk_drew ?_ | refine blk_alloc ?_ _)); refine blk_far ?_ NB289_304.out _; (with_reducible repeat (first | refine blk_drewN ?_ _ | refine blk_drew ?_ | refine blk_alloc ?_ _)); refine blk_far ?_ NB289_304.out _; (with_reducible repeat (first | refine blk_drewN ?_ _ | refine blk_drew ?_ | refine blk_alloc ?_ _)); exact BK289.out⟩, ⟨by (with_reducible repeat (first | refine blk_drewN ?_ _ | refine blk_drew ?_ | refine blk_alloc ?_ _)); refine blk_far ?_ NB297_304.out _; (with_reducible repeat (first | refine blk_drewN ?_ _ | refine blk_drew ?_ | refine blk_alloc ?_ _)); refine blk_far ?_ NB297_304.out _; (with_reducible repeat (first | refine blk_drewN ?_ _ | refine blk_drew ?_ | refine blk_alloc ?_ _)); refine blk_far ?_ NB297_304.out _; (with_reducible repeat (first | refine blk_drewN ?_ _ | refine blk_drew ?_ | refine blk_alloc ?_ _)); refine blk_far ?_ NB297_304.out _; (with_reducible repeat (first | refine blk_drewN ?_ _ | refine blk_drew ?_ | refine blk_alloc ?_ _)); refine blk_far ?_ NB297_304.out _; (with_reducible repeat (first | refine blk_drewN ?_ _ | refine blk_drew ?_ | refine blk_alloc ?_ _)); refine blk_far ?_ NB297_304.out _; (with_reducible repeat (first | refine blk_drewN ?_ _ | refine blk_drew ?_ | refine blk_alloc ?_ _)); exact BK297.out⟩, ⟨by repeat (first | (with_reducible first | exact HB.out | apply below_alloc | apply pw_below_drewN | apply below_drew1 | refine below_set ?_ GE281.out | refine below_set ?_ GE289.out | refine below_set ?_ GE297.out | refine below_set ?_ GE304.out) | exact HB.out)⟩⟩
                            ·rw [if_neg c108] at H
                             exact absurd H (by simp)
                           ·rw [if_neg c107] at H
                            exact absurd H (by simp)
                          ·rw [if_neg c106] at H
                           exact absurd H (by simp)
                         ·rw [if_neg c105] at H
                          exact absurd H (by simp)
                        ·rw [if_neg c103] at H
                         have c103b0 : decide ((wrap64 ((t274.length : Int) - 1)) ≤ x12_7) = false := decide_eq_false c103
                         clear c103
                         have H' := Aside0.mk H
                         clear H
                         obtain ⟨Ao124, co124, eo124⟩ := Kd.R_slice HO_5.out
                         subst eo124
                         go_wp2
                         go_roundg kj100
                         case measure => have := HJ2.out; have := HJ4.out; have := HJ13.out; have := HJ50.out; have := HJ76.out; have := HJ87.out; have := HK7.out; have := HJ90.out; have := HJ93.out; have := HJ100.out; omega
                         case rel => exact ⟨(wrap64 (x12_7 + 1)), (by first | rfl | (simp; done) | (simp [*]; done)), H', ⟨by have := HJ2.out; have := HJ4.out; have := HJ13.out; have := HJ50.out; have := HJ76.out; have := HJ87.out; have := HK7.out; have := HJ90.out; have := HJ93.out; have := HJ100.out; omega⟩, ⟨by (with_reducible repeat (first | apply Kd.R_alloc | apply Kd.R_drewN | apply Kd.R_drew)); exact HO_5.out⟩, ⟨by (with_reducible repeat (first | apply Kd.R_alloc | apply Kd.R_drewN | apply Kd.R_drew)); exact HO_7.out⟩, ⟨by (with_reducible repeat (first | apply Kd.R_alloc | apply Kd.R_drewN | apply Kd.R_drew)); exact HO_9.out⟩, ⟨by (with_reducible repeat (first | refine blk_drewN ?_ _ | refine blk_drew ?_ | refine blk_alloc ?_ _)); exact BK281.out⟩, ⟨by (with_reducible repeat (first | refine blk_drewN ?_ _ | refine blk_drew ?_ | refine blk_alloc ?_ _)); exact BK289.out⟩, ⟨by (with_reducible repeat (first | refine blk_drewN ?_ _ | refine blk_drew ?_ | refine blk_alloc ?_ _)); exact BK297.out⟩, ⟨by repeat (first | (with_reducible first | exact HB.out | apply below_alloc | apply pw_below_drewN | apply below_drew1 | refine below_set ?_ GE281.out | refine below_set ?_ GE289.out | refine below_set ?_ GE297.out) | exact HB.out)⟩⟩
               case rest =>
                clear HC90
                (try clear c1); (try clear c2); (try clear p2); (try clear c3); (try clear p3); (try clear q3); (try clear hx3); (try clear c4); (try clear c4b0); (try clear c4b1); (try clear c5); (try clear c6); (try clear p6); (try clear c7); (try clear c8); (try clear c9); (try clear c9b0); (try clear c9b1); (try clear c9b2); (try clear c10); (try clear c11); (try clear c12); (try clear c12b0); (try clear c12b1); (try clear c12b2); (try clear c20); (try clear c24); (try clear c25); (try clear c28); (try clear c28b0); (try clear c28b1); (try clear c29); (try clear c29b0); (try clear c29b1); (try clear c29b2); (try clear c30); (try clear c30b0); (try clear c30b1); (try clear c30b2); (try clear p30); (try clear q30); (try clear hx30); (try clear c32); (try clear c33); (try clear c35); (try clear c39); (try clear c40); (try clear c42); (try clear c45); (try clear c46); (try clear c48); (try clear c52); (try clear c53); (try clear c55); (try clear c55b0); (try clear c55b1); (try clear c56); (try clear c56b0); (try clear c56b1); (try clear c56b2); (try clear c57); (try clear c57b0); (try clear c57b1); (try clear c57b2); (try clear c59); (try clear c60); (try clear c62); (try clear p64); (try clear c66); (try clear c67); (try clear c69); (try clear c72); (try clear c73); (try clear c75); (try clear c78); (try clear c78b0); (try clear c78b1); (try clear c79); (try clear c80); (try clear c85); (try clear c86); (try clear c89); (try clear c93); (try clear c93b0); (try clear c95); (try clear c95b0); (try clear c96); (try clear c96b0); (try clear c97); (try clear c97b0); (try clear c98); (try clear c98b0); (try clear c102); (try clear c103); (try clear c103b0); (try clear c105); (try clear c105b0); (try clear c106); (try clear c106b0); (try clear c107); (try clear c107b0); (try clear c108); (try clear c108b0); (try clear c109); (try clear c109b0); (try clear c113); (try clear c114); (try clear c115); (try clear c120); (try clear c121); (try clear c122); (try clear hcz116_0); (try clear hcz116_1); (try clear hcz116_2); (try clear hcz116_3); (try clear hcz116_4); (try clear hcz123_0); (try clear hcz123_1); (try clear hcz123_2); (try clear hcz123_3); (try clear hcz123_4); (try clear hcz17_0); (try clear hcz17_1); (try clear hcz17_2); (try clear hcz17_3); (try clear hcz21_0); (try clear hcz21_1); (try clear hcz21_2); (try clear hcz21_3); (try clear hcz26_0); (try clear hcz26_1); (try clear hcz26_2); (try clear hcz26_3); (try clear hcz27_0); (try clear hcz27_1); (try clear hcz27_2); (try clear hcz27_3); (try clear hcz34_0); (try clear hcz34_1); (try clear hcz34_2); (try clear hcz34_3); (try clear hcz36_0); (try clear hcz36_1); (try clear hcz36_2); (try clear hcz36_3); (try clear hcz41_0); (try clear hcz41_1); (try clear hcz41_2); (try clear hcz41_3); (try clear hcz43_0); (try clear hcz43_1); (try clear hcz43_2); (try clear hcz43_3); (try clear hcz47_0); (try clear hcz47_1); (try clear hcz47_2); (try clear hcz47_3); (try clear hcz49_0); (try clear hcz49_1); (try clear hcz49_2); (try clear hcz49_3); (try clear hcz54_0); (try clear hcz54_1); (try clear hcz54_2); (try clear hcz54_3); (try clear hcz61_0); (try clear hcz61_1); (try clear hcz61_2); (try clear hcz61_3); (try clear hcz63_0); (try clear hcz63_1); (try clear hcz63_2); (try clear hcz63_3); (try clear hcz68_0); (try clear hcz68_1); (try clear hcz68_2); (try clear hcz68_3); (try clear hcz70_0); (try clear hcz70_1); (try clear hcz70_2); (try clear hcz70_3); (try clear hcz74_0); (try clear hcz74_1); (try clear hcz74_2); (try clear hcz74_3); (try clear hcz76_0); (try clear hcz76_1); (try clear hcz76_2); (try clear hcz76_3); (try clear hcz81_0); (try clear hcz81_1); (try clear hcz81_2); (try clear hcz81_3); (try clear hcz87_0); (try clear hcz87_1); (try clear hcz87_2); (try clear hcz87_3); (try clear hfz116_0); (try clear hfz116_1); (try clear hfz116_2); (try clear hfz116_3); (try clear hfz116_4); (try clear hfz123_0); (try clear hfz123_1); (try clear hfz123_2); (try clear hfz123_3); (try clear hfz123_4); (try clear hfz17_0); (try clear hfz17_1); (try clear hfz17_2); (try clear hfz17_3); (try clear hfz21_0); (try clear hfz21_1); (try clear hfz21_2); (try clear hfz21_3); (try clear hfz26_0); (try clear hfz26_1); (try clear hfz26_2); (try clear hfz26_3); (try clear hfz27_0); (try clear hfz27_1); (try clear hfz27_2); (try clear hfz27_3); (try clear hfz34_0); (try clear hfz34_1); (try clear hfz34_2); (try clear hfz34_3); (try clear hfz36_0); (try clear hfz36_1); (try clear hfz36_2); (try clear hfz36_3); (try clear hfz41_0); (try clear hfz41_1); (try clear hfz41_2); (try clear hfz41_3); (try clear hfz43_0); (try clear hfz43_1); (try clear hfz43_2); (try clear hfz43_3); (try clear hfz47_0); (try clear hfz47_1); (try clear hfz47_2); (try clear hfz47_3); (try clear hfz49_0); (try clear hfz49_1); (try clear hfz49_2); (try clear hfz49_3); (try clear hfz54_0); (try clear hfz54_1); (try clear hfz54_2); (try clear hfz54_3); (try clear hfz61_0); (try clear hfz61_1); (try clear hfz61_2); (try clear hfz61_3); (try clear hfz63_0); (try clear hfz63_1); (try clear hfz63_2); (try clear hfz63_3); (try clear hfz68_0); (try clear hfz68_1); (try clear hfz68_2); (try clear hfz68_3); (try clear hfz70_0); (try clear hfz70_1); (try clear hfz70_2); (try clear hfz70_3); (try clear hfz74_0); (try clear hfz74_1); (try clear hfz74_2); (try clear hfz74_3); (try clear hfz76_0); (try clear hfz76_1); (try clear hfz76_2); (try clear hfz76_3); (try clear hfz81_0); (try clear hfz81_1); (try clear hfz81_2); (try clear hfz81_3); (try clear hfz87_0); (try clear hfz87_1); (try clear hfz87_2); (try clear hfz87_3); (try clear hx301_0); (try clear hx301_1); (try clear hx301_2); (try clear hx301_3); (try clear hx301_4); (try clear hx302_0); (try clear hx302_1); (try clear hx302_2); (try clear hx302_3); (try clear hx302_4); (try clear hx303_0); (try clear hx303_1); (try clear hx303_2); (try clear hx303_3); (try clear hx303_4); (try clear hx305_0); (try clear hx305_1); (try clear hx305_2); (try clear hx305_3); (try clear hx305_4); (try clear p301); (try clear p302); (try clear p303); (try clear p305); (try clear q301); (try clear q302); (try clear q303); (try clear q305)
                obtain ⟨kq, HA, HJ89, BK281, BK289, BK297, HB⟩ := hcut
                cases kq with
                | zero => exact absurd HA.out (by simp [sortilegelaw05_LexerLines.j10])
                | succ kj89 =>
                 have H := HA.out
                 clear HA
                 simp only [sortilegelaw05_LexerLines.j10] at H
                 replace H := Option.bind_eq_some_iff.mp H
                 obtain ⟨t306, A1250, H⟩ := H
                 replace H : (some t306) = some r := H
                 have A125 := Aside0.mk A1250
                 clear A1250
                 obtain rfl := Option.some.inj H
                 go_wp2_with (first | (go_at_call 9; (with_reducible refine (sortilegelaw05_awake.calls kj89  t306 _ ?side1 A125.out).mono ?_); (case side1 => first | (with_reducible exact hs_) | exact Sane.below hs_ (by repeat (first | (with_reducible first | exact HB.out | apply below_alloc | apply pw_below_drewN | apply below_drew1 | refine below_set ?_ GE281.out | refine below_set ?_ GE289.out | refine below_set ?_ GE297.out) | exact HB.out))); rintro e w126 ⟨rfl, hb⟩; have n0_ := Aside0.mk (blk_below (g := gb281) (o := .cells #[.int .i64 t277, .string t278, .int .i64 t279, .int .i64 t280] 26 (0, 0)) (by (with_reducible repeat (first | refine blk_drewN ?_ _ | refine blk_drew ?_ | refine blk_alloc ?_ _)); exact BK281.out) hb); have n1_ := Aside0.mk (blk_below (g := gb289) (o := .cells #[.int .i64 t285, .string t286, .int .i64 x290002_50, .int .i64 t288] 26 (0, 0)) (by (with_reducible repeat (first | refine blk_drewN ?_ _ | refine blk_drew ?_ | refine blk_alloc ?_ _)); exact BK289.out) hb); have n2_ := Aside0.mk (blk_below (g := gb297) (o := .cells #[.int .i64 t293, .string t294, .int .i64 t295, .int .i64 t296] 26 (0, 0)) (by (with_reducible repeat (first | refine blk_drewN ?_ _ | refine blk_drew ?_ | refine blk_alloc ?_ _)); exact BK297.out) hb); have n3_ := Aside0.mk (below_step (by repeat (first | (with_reducible first | exact HB.out | apply below_alloc | apply pw_below_drewN | apply below_drew1 | refine below_set ?_ GE281.out | refine below_set ?_ GE289.out | refine below_set ?_ GE297.out) | exact HB.out)) hb); clear BK281; clear BK289; clear BK297; clear HB; have BK281 := n0_; have BK289 := n1_; have BK297 := n2_; have HB := n3_; clear n0_ n1_ n2_ n3_; (try clear hb); (try clear hb2); (try clear hk); (try clear hi)))
                 go_ret
                 exact ⟨by first | rfl | (simp [errW_none, errW_some] <;> rfl) | (simp [*, errW_none, errW_some] <;> rfl), by repeat (first | (with_reducible first | exact HB.out | apply below_alloc | apply pw_below_drewN | apply below_drew1 | refine below_set ?_ GE281.out | refine below_set ?_ GE289.out | refine below_set ?_ GE297.out) | exact HB.out)⟩
      ·rw [if_neg c12] at H
       exact absurd H (by simp)
     ·rw [if_neg c9] at H
      exact absurd H (by simp)

/-- THE ONE PURE STATEMENT of sortilegelaw05_LexerLines: yours. -/
def sortilegelaw05_LexerLines.Pure : Prop := ∀ (a0 : ByteArray) (a1 : ByteArray), a0.size ≤ 140737488351232 → a1.size ≤ 140737488351232 → ∃ k, sortilegelaw05_LexerLines.f k a0 a1 = some true
theorem sortilegelaw05_LexerLines.walk (P : sortilegelaw05_LexerLines.Pure) (a0 : ByteArray) (a1 : ByteArray) (w : World) (w0 : a0.size ≤ 140737488351232) (w1 : a1.size ≤ 140737488351232) (hs_ : Sane w) :
  Calls Try.prog 6 #[.string a0, .string a1] w fun e w' => e = .returned (.bool true) ∧ Below w.heap.size w w' := by
 obtain ⟨k, h⟩ := P a0 a1 w0 w1
 refine (sortilegelaw05_LexerLines.calls k a0 a1 true w hs_ h).mono ?_
 rintro e w' ⟨rfl, hd⟩
 exact ⟨rfl, hd⟩

end Go.Proofs.Ytfcekcnghomiiaa.X
