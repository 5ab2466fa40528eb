-- Printed by xprint.py of this session (the kit's printer with contracts given by hand). Lean checks it.
import Derived.Test.YtfcekcnghomiiaaX0
import Derived.Test.YtfcekcnghomiiaaX7
import Derived.Test.YtfcekcnghomiiaaX10
namespace Go.Proofs.Ytfcekcnghomiiaa.X
open Go.RowKit Go.Proofs.YtfcekcnghomiiaaW.PrintWords Go.Proofs.YtfcekcnghomiiaaW.PrintLast Go.Proofs.YtfcekcnghomiiaaW.PrintMore
attribute [local go_sem] max2_int min2_int max_two min_two max_three min_three max_four min_four   -- for this text's walks alone
set_option linter.unusedVariables false
set_option linter.unusedSimpArgs false

theorem ne_spell (l : List UInt8) (b : Bool) : (!l.isEmpty == b) = ((l == ([] : List UInt8)) != b) := by
  cases l <;> cases b <;> rfl
/-! ### sortilegelaw05_LexerPlaces: function 7 -/
mutual
def sortilegelaw05_LexerPlaces.j0 : Nat → ByteArray → List (S36) → Bool → Option (Bool)
  | 0, _, _, _ => none
  | k + 1, x0, x3, x24 => if x24 = true then ((sortilegelaw05_awake.f k).bind fun t210 => (some t210)) else (sortilegelaw05_LexerPlaces.l0 k x0 x3 1 0 0 0)
def sortilegelaw05_LexerPlaces.l0 : Nat → ByteArray → List (S36) → Int → Int → Int → Int → Option (Bool)
  | 0, _, _, _, _, _, _ => none
  | k + 1, x0, x3, x5, x6, x7, x8 => if x8 < (x3.length : Int) then (sortilegelaw05_LexerPlaces.l1 k x0 x3 x5 x6 x7 x8 false) else (if x7 = (x0.size : Int) then (if (x3.length : Int) > 0 then (if 0 ≤ (wrap64 ((x3.length : Int) - 1)) then (if (wrap64 ((x3.length : Int) - 1)) < (x3.length : Int) then (if ((rd_T36 x3 (wrap64 ((x3.length : Int) - 1))).f0) = 5 then ((sortilegelaw05_awake.f k).bind fun t212 => (some t212)) else (some false)) else (none)) else (none)) else (some false)) else (some false))
def sortilegelaw05_LexerPlaces.l1 : Nat → ByteArray → List (S36) → Int → Int → Int → Int → Bool → Option (Bool)
  | 0, _, _, _, _, _, _, _ => none
  | k + 1, x0, x3, x5, x6, x7, x8, x9 => if x7 < (x0.size : Int) then (if 0 ≤ x8 then (if x8 < (x3.length : Int) then (if ((rd_T36 x3 x8).f0) = 5 then (sortilegelaw05_LexerPlaces.j3 k x0 x3 x5 x6 x7 x8 x9 true) else (if x5 < ((rd_T36 x3 x8).f3) then (sortilegelaw05_LexerPlaces.j3 k x0 x3 x5 x6 x7 x8 x9 true) else (sortilegelaw05_LexerPlaces.j3 k x0 x3 x5 x6 x7 x8 x9 (decide ((wrap64 ((wrap64 (x7 - x6)) + 1)) < ((rd_T36 x3 x8).f4)))))) else (none)) else (none)) else (sortilegelaw05_LexerPlaces.j3 k x0 x3 x5 x6 x7 x8 x9 false)
def sortilegelaw05_LexerPlaces.j3 : Nat → ByteArray → List (S36) → Int → Int → Int → Int → Bool → Bool → Option (Bool)
  | 0, _, _, _, _, _, _, _, _ => none
  | k + 1, x0, x3, x5, x6, x7, x8, x9, x64 => if x64 = true then (if 0 ≤ x7 then (if x7 < (x0.size : Int) then (if x9 = true then (if (bt x0 x7) = 10 then (sortilegelaw05_LexerPlaces.j4 k x0 x3 x5 x6 x7 x8 ((bt x0 x7) == 35) (bt x0 x7)) else (sortilegelaw05_LexerPlaces.j4 k x0 x3 x5 x6 x7 x8 true (bt x0 x7))) else (sortilegelaw05_LexerPlaces.j4 k x0 x3 x5 x6 x7 x8 ((bt x0 x7) == 35) (bt x0 x7))) else (none)) else (none)) else (if 0 ≤ x8 then (if x8 < (x3.length : Int) then (if ((rd_T36 x3 x8).f3) = x5 then (if ((rd_T36 x3 x8).f4) = (wrap64 ((wrap64 (x7 - x6)) + 1)) then (if (wrap64 (x7 + (((rd_T36 x3 x8).f1).size : Int))) > (x0.size : Int) then (some false) else (if 0 ≤ x7 then (if x7 ≤ (wrap64 (x7 + (((rd_T36 x3 x8).f1).size : Int))) then (if (wrap64 (x7 + (((rd_T36 x3 x8).f1).size : Int))) ≤ (x0.size : Int) then (if (x0.extract (x7 : Int).toNat ((wrap64 (x7 + (((rd_T36 x3 x8).f1).size : Int))) : Int).toNat).toList = ((rd_T36 x3 x8).f1).toList then (if ((((rd_T36 x3 x8).f1).toList == ([] : List UInt8)) != (((rd_T36 x3 x8).f0) == 5)) = true then (some false) else (sortilegelaw05_LexerPlaces.l0 k x0 x3 x5 x6 (wrap64 (x7 + (((rd_T36 x3 x8).f1).size : Int))) (wrap64 (x8 + 1)))) else (some false)) else (none)) else (none)) else (none))) else (some false)) else (some false)) else (none)) else (none))
def sortilegelaw05_LexerPlaces.j4 : Nat → ByteArray → List (S36) → Int → Int → Int → Int → Bool → Int → Option (Bool)
  | 0, _, _, _, _, _, _, _, _ => none
  | k + 1, x0, x3, x5, x6, x7, x8, x9, x10 => if x9 = true then (sortilegelaw05_LexerPlaces.j5 k x0 x3 x5 x6 x7 x8 x9 x10 false) else (if x10 = 32 then (sortilegelaw05_LexerPlaces.j5 k x0 x3 x5 x6 x7 x8 x9 x10 false) else (if x10 = 9 then (sortilegelaw05_LexerPlaces.j5 k x0 x3 x5 x6 x7 x8 x9 x10 false) else (if x10 = 10 then (sortilegelaw05_LexerPlaces.j5 k x0 x3 x5 x6 x7 x8 x9 x10 false) else (sortilegelaw05_LexerPlaces.j5 k x0 x3 x5 x6 x7 x8 x9 x10 (x10 != 13)))))
def sortilegelaw05_LexerPlaces.j5 : Nat → ByteArray → List (S36) → Int → Int → Int → Int → Bool → Int → Bool → Option (Bool)
  | 0, _, _, _, _, _, _, _, _, _ => none
  | k + 1, x0, x3, x5, x6, x7, x8, x9, x10, x94 => if x94 = true then (some false) else (if x10 = 10 then (sortilegelaw05_LexerPlaces.l1 k x0 x3 (wrap64 (x5 + 1)) (wrap64 (x7 + 1)) (wrap64 (x7 + 1)) x8 x9) else (sortilegelaw05_LexerPlaces.l1 k x0 x3 x5 x6 (wrap64 (x7 + 1)) x8 x9))
end
def sortilegelaw05_LexerPlaces.f (k : Nat) (a0 : ByteArray) : Option (Bool) := (lexer_Tokens.f k a0).bind fun bt202 => (if (a0.size : Int) > 9000 then (sortilegelaw05_LexerPlaces.j0 k a0 bt202.1 true) else (sortilegelaw05_LexerPlaces.j0 k a0 bt202.1 (bt202.2.1 != 0)))
theorem sortilegelaw05_LexerPlaces.mono_l : ∀ k, (∀ y0 y1 y2, LeO (sortilegelaw05_LexerPlaces.j0 k y0 y1 y2) (sortilegelaw05_LexerPlaces.j0 (k + 1) y0 y1 y2)) ∧ (∀ y0 y1 y2 y3 y4 y5, LeO (sortilegelaw05_LexerPlaces.l0 k y0 y1 y2 y3 y4 y5) (sortilegelaw05_LexerPlaces.l0 (k + 1) y0 y1 y2 y3 y4 y5)) ∧ (∀ y0 y1 y2 y3 y4 y5 y6, LeO (sortilegelaw05_LexerPlaces.l1 k y0 y1 y2 y3 y4 y5 y6) (sortilegelaw05_LexerPlaces.l1 (k + 1) y0 y1 y2 y3 y4 y5 y6)) ∧ (∀ y0 y1 y2 y3 y4 y5 y6 y7, LeO (sortilegelaw05_LexerPlaces.j3 k y0 y1 y2 y3 y4 y5 y6 y7) (sortilegelaw05_LexerPlaces.j3 (k + 1) y0 y1 y2 y3 y4 y5 y6 y7)) ∧ (∀ y0 y1 y2 y3 y4 y5 y6 y7, LeO (sortilegelaw05_LexerPlaces.j4 k y0 y1 y2 y3 y4 y5 y6 y7) (sortilegelaw05_LexerPlaces.j4 (k + 1) y0 y1 y2 y3 y4 y5 y6 y7)) ∧ (∀ y0 y1 y2 y3 y4 y5 y6 y7 y8, LeO (sortilegelaw05_LexerPlaces.j5 k y0 y1 y2 y3 y4 y5 y6 y7 y8) (sortilegelaw05_LexerPlaces.j5 (k + 1) y0 y1 y2 y3 y4 y5 y6 y7 y8))
  | 0 => ⟨fun _ _ _ r h => by simp [sortilegelaw05_LexerPlaces.j0] at h, fun _ _ _ _ _ _ r h => by simp [sortilegelaw05_LexerPlaces.l0] at h, fun _ _ _ _ _ _ _ r h => by simp [sortilegelaw05_LexerPlaces.l1] at h, fun _ _ _ _ _ _ _ _ r h => by simp [sortilegelaw05_LexerPlaces.j3] at h, fun _ _ _ _ _ _ _ _ r h => by simp [sortilegelaw05_LexerPlaces.j4] at h, fun _ _ _ _ _ _ _ _ _ r h => by simp [sortilegelaw05_LexerPlaces.j5] at h⟩
  | k + 1 => by
    obtain ⟨ih0, ih1, ih2, ih3, ih4, ih5⟩ := sortilegelaw05_LexerPlaces.mono_l k
    refine ⟨?_, ?_, ?_, ?_, ?_, ?_⟩
    · intro y0 y1 y2
      unfold sortilegelaw05_LexerPlaces.j0
      repeat' first
      | (with_reducible exact ih0 _ _ _)
      | (with_reducible exact ih1 _ _ _ _ _ _)
      | (with_reducible exact ih2 _ _ _ _ _ _ _)
      | (with_reducible exact ih3 _ _ _ _ _ _ _ _)
      | (with_reducible exact ih4 _ _ _ _ _ _ _ _)
      | (with_reducible exact ih5 _ _ _ _ _ _ _ _ _)
      | (with_reducible exact lexer_Tokens.mono _ _)
      | (with_reducible exact sortilegelaw05_awake.mono _)
      | (with_reducible exact LeO.refl _)
      | (with_reducible exact LeO.none _)
      | (with_reducible refine LeO.ite ?_ ?_)
      | (with_reducible refine LeO.bind ?_ (fun _ => ?_))
      | exact ih0 _ _ _
      | exact ih1 _ _ _ _ _ _
      | exact ih2 _ _ _ _ _ _ _
      | exact ih3 _ _ _ _ _ _ _ _
      | exact ih4 _ _ _ _ _ _ _ _
      | exact ih5 _ _ _ _ _ _ _ _ _
      | exact lexer_Tokens.mono _ _
      | exact sortilegelaw05_awake.mono _
      | exact LeO.none _
      | refine LeO.ite ?_ ?_
      | refine LeO.bind ?_ (fun _ => ?_)
    · intro y0 y1 y2 y3 y4 y5
      unfold sortilegelaw05_LexerPlaces.l0
      repeat' first
      | (with_reducible exact ih0 _ _ _)
      | (with_reducible exact ih1 _ _ _ _ _ _)
      | (with_reducible exact ih2 _ _ _ _ _ _ _)
      | (with_reducible exact ih3 _ _ _ _ _ _ _ _)
      | (with_reducible exact ih4 _ _ _ _ _ _ _ _)
      | (with_reducible exact ih5 _ _ _ _ _ _ _ _ _)
      | (with_reducible exact lexer_Tokens.mono _ _)
      | (with_reducible exact sortilegelaw05_awake.mono _)
      | (with_reducible exact LeO.refl _)
      | (with_reducible exact LeO.none _)
      | (with_reducible refine LeO.ite ?_ ?_)
      | (with_reducible refine LeO.bind ?_ (fun _ => ?_))
      | exact ih0 _ _ _
      | exact ih1 _ _ _ _ _ _
      | exact ih2 _ _ _ _ _ _ _
      | exact ih3 _ _ _ _ _ _ _ _
      | exact ih4 _ _ _ _ _ _ _ _
      | exact ih5 _ _ _ _ _ _ _ _ _
      | exact lexer_Tokens.mono _ _
      | exact sortilegelaw05_awake.mono _
      | exact LeO.none _
      | refine LeO.ite ?_ ?_
      | refine LeO.bind ?_ (fun _ => ?_)
    · intro y0 y1 y2 y3 y4 y5 y6
      unfold sortilegelaw05_LexerPlaces.l1
      repeat' first
      | (with_reducible exact ih0 _ _ _)
      | (with_reducible exact ih1 _ _ _ _ _ _)
      | (with_reducible exact ih2 _ _ _ _ _ _ _)
      | (with_reducible exact ih3 _ _ _ _ _ _ _ _)
      | (with_reducible exact ih4 _ _ _ _ _ _ _ _)
      | (with_reducible exact ih5 _ _ _ _ _ _ _ _ _)
      | (with_reducible exact lexer_Tokens.mono _ _)
      | (with_reducible exact sortilegelaw05_awake.mono _)
      | (with_reducible exact LeO.refl _)
      | (with_reducible exact LeO.none _)
      | (with_reducible refine LeO.ite ?_ ?_)
      | (with_reducible refine LeO.bind ?_ (fun _ => ?_))
      | exact ih0 _ _ _
      | exact ih1 _ _ _ _ _ _
      | exact ih2 _ _ _ _ _ _ _
      | exact ih3 _ _ _ _ _ _ _ _
      | exact ih4 _ _ _ _ _ _ _ _
      | exact ih5 _ _ _ _ _ _ _ _ _
      | exact lexer_Tokens.mono _ _
      | exact sortilegelaw05_awake.mono _
      | exact LeO.none _
      | refine LeO.ite ?_ ?_
      | refine LeO.bind ?_ (fun _ => ?_)
    · intro y0 y1 y2 y3 y4 y5 y6 y7
      unfold sortilegelaw05_LexerPlaces.j3
      repeat' first
      | (with_reducible exact ih0 _ _ _)
      | (with_reducible exact ih1 _ _ _ _ _ _)
      | (with_reducible exact ih2 _ _ _ _ _ _ _)
      | (with_reducible exact ih3 _ _ _ _ _ _ _ _)
      | (with_reducible exact ih4 _ _ _ _ _ _ _ _)
      | (with_reducible exact ih5 _ _ _ _ _ _ _ _ _)
      | (with_reducible exact lexer_Tokens.mono _ _)
      | (with_reducible exact sortilegelaw05_awake.mono _)
      | (with_reducible exact LeO.refl _)
      | (with_reducible exact LeO.none _)
      | (with_reducible refine LeO.ite ?_ ?_)
      | (with_reducible refine LeO.bind ?_ (fun _ => ?_))
      | exact ih0 _ _ _
      | exact ih1 _ _ _ _ _ _
      | exact ih2 _ _ _ _ _ _ _
      | exact ih3 _ _ _ _ _ _ _ _
      | exact ih4 _ _ _ _ _ _ _ _
      | exact ih5 _ _ _ _ _ _ _ _ _
      | exact lexer_Tokens.mono _ _
      | exact sortilegelaw05_awake.mono _
      | exact LeO.none _
      | refine LeO.ite ?_ ?_
      | refine LeO.bind ?_ (fun _ => ?_)
    · intro y0 y1 y2 y3 y4 y5 y6 y7
      unfold sortilegelaw05_LexerPlaces.j4
      repeat' first
      | (with_reducible exact ih0 _ _ _)
      | (with_reducible exact ih1 _ _ _ _ _ _)
      | (with_reducible exact ih2 _ _ _ _ _ _ _)
      | (with_reducible exact ih3 _ _ _ _ _ _ _ _)
      | (with_reducible exact ih4 _ _ _ _ _ _ _ _)
      | (with_reducible exact ih5 _ _ _ _ _ _ _ _ _)
      | (with_reducible exact lexer_Tokens.mono _ _)
      | (with_reducible exact sortilegelaw05_awake.mono _)
      | (with_reducible exact LeO.refl _)
      | (with_reducible exact LeO.none _)
      | (with_reducible refine LeO.ite ?_ ?_)
      | (with_reducible refine LeO.bind ?_ (fun _ => ?_))
      | exact ih0 _ _ _
      | exact ih1 _ _ _ _ _ _
      | exact ih2 _ _ _ _ _ _ _
      | exact ih3 _ _ _ _ _ _ _ _
      | exact ih4 _ _ _ _ _ _ _ _
      | exact ih5 _ _ _ _ _ _ _ _ _
      | exact lexer_Tokens.mono _ _
      | exact sortilegelaw05_awake.mono _
      | exact LeO.none _
      | refine LeO.ite ?_ ?_
      | refine LeO.bind ?_ (fun _ => ?_)
    · intro y0 y1 y2 y3 y4 y5 y6 y7 y8
      unfold sortilegelaw05_LexerPlaces.j5
      repeat' first
      | (with_reducible exact ih0 _ _ _)
      | (with_reducible exact ih1 _ _ _ _ _ _)
      | (with_reducible exact ih2 _ _ _ _ _ _ _)
      | (with_reducible exact ih3 _ _ _ _ _ _ _ _)
      | (with_reducible exact ih4 _ _ _ _ _ _ _ _)
      | (with_reducible exact ih5 _ _ _ _ _ _ _ _ _)
      | (with_reducible exact lexer_Tokens.mono _ _)
      | (with_reducible exact sortilegelaw05_awake.mono _)
      | (with_reducible exact LeO.refl _)
      | (with_reducible exact LeO.none _)
      | (with_reducible refine LeO.ite ?_ ?_)
      | (with_reducible refine LeO.bind ?_ (fun _ => ?_))
      | exact ih0 _ _ _
      | exact ih1 _ _ _ _ _ _
      | exact ih2 _ _ _ _ _ _ _
      | exact ih3 _ _ _ _ _ _ _ _
      | exact ih4 _ _ _ _ _ _ _ _
      | exact ih5 _ _ _ _ _ _ _ _ _
      | exact lexer_Tokens.mono _ _
      | exact sortilegelaw05_awake.mono _
      | exact LeO.none _
      | refine LeO.ite ?_ ?_
      | refine LeO.bind ?_ (fun _ => ?_)
theorem sortilegelaw05_LexerPlaces.mono : ∀ a0 k, LeO (sortilegelaw05_LexerPlaces.f k a0) (sortilegelaw05_LexerPlaces.f (k + 1) a0) := by
  intro a0 k
  obtain ⟨ih0, ih1, ih2, ih3, ih4, ih5⟩ := sortilegelaw05_LexerPlaces.mono_l k
  unfold sortilegelaw05_LexerPlaces.f
  repeat' first
      | (with_reducible exact ih0 _ _ _)
      | (with_reducible exact ih1 _ _ _ _ _ _)
      | (with_reducible exact ih2 _ _ _ _ _ _ _)
      | (with_reducible exact ih3 _ _ _ _ _ _ _ _)
      | (with_reducible exact ih4 _ _ _ _ _ _ _ _)
      | (with_reducible exact ih5 _ _ _ _ _ _ _ _ _)
      | (with_reducible exact lexer_Tokens.mono _ _)
      | (with_reducible exact sortilegelaw05_awake.mono _)
      | (with_reducible exact LeO.refl _)
      | (with_reducible exact LeO.none _)
      | (with_reducible refine LeO.ite ?_ ?_)
      | (with_reducible refine LeO.bind ?_ (fun _ => ?_))
      | exact ih0 _ _ _
      | exact ih1 _ _ _ _ _ _
      | exact ih2 _ _ _ _ _ _ _
      | exact ih3 _ _ _ _ _ _ _ _
      | exact ih4 _ _ _ _ _ _ _ _
      | exact ih5 _ _ _ _ _ _ _ _ _
      | exact lexer_Tokens.mono _ _
      | exact sortilegelaw05_awake.mono _
      | exact LeO.none _
      | refine LeO.ite ?_ ?_
      | refine LeO.bind ?_ (fun _ => ?_)
set_option maxHeartbeats 8000000 in
set_option maxRecDepth 100000 in
theorem sortilegelaw05_LexerPlaces.calls (k : Nat) (a0 : ByteArray) (r : Bool) (w : World) (hs_ : Sane w) (h : sortilegelaw05_LexerPlaces.f k a0 = some r) :
    Calls Try.prog 7 #[.string a0] w fun e w' => e = .returned (.bool r) ∧ Below w.heap.size w w' := by
  have hu26 := Try.underlying26
  have HB := Aside0.mk (Below.refl w.heap.size w)
  have H : ((lexer_Tokens.f k a0).bind fun bt202 => (if (a0.size : Int) > 9000 then (sortilegelaw05_LexerPlaces.j0 k a0 bt202.1 true) else (sortilegelaw05_LexerPlaces.j0 k a0 bt202.1 (bt202.2.1 != 0)))) = some r := h
  clear h
  replace H := Option.bind_eq_some_iff.mp H
  obtain ⟨⟨t202, t205, t206, t207, t208⟩, A20, H⟩ := H
  replace H : (if (a0.size : Int) > 9000 then (sortilegelaw05_LexerPlaces.j0 k a0 t202 true) else (sortilegelaw05_LexerPlaces.j0 k a0 t202 (t205 != 0))) = some r := H
  have A2 := Aside0.mk A20
  clear A20
  have HC3 := Aside0.mk H
  clear H
  go_enter Try.func7, Try.ntmps7
  go_upto_region 2 with (first | ((with_reducible refine gate_callee (f := 10) rfl ?_); refine goesL_ (some 14) rfl rfl Try.func10 (by kernel_rfl) rfl #[.string a0] rfl (by (try simp only [List.map_toArray, List.map_cons, List.map_nil]); first | done | rfl | (simp only [List.length_drop, List.length_take]; rfl)) ?_; (with_reducible refine (lexer_Tokens.calls k a0 t202 t205 t206 t207 t208 _ ?side1 A2.out).mono ?_); (case side1 => first | (with_reducible exact hs_) | exact Sane.below hs_ (by repeat (first | (with_reducible first | exact HB.out | apply below_alloc | apply pw_below_drewN | apply below_drew1) | exact HB.out))); rintro e w4 ⟨v203, rfl, ho0, hb⟩; refine ⟨_, rfl, ?_⟩; have n0_ := Aside0.mk (Kd.R_lower ho0 (below_size (by repeat (first | (with_reducible first | exact HB.out | apply below_alloc | apply pw_below_drewN | apply below_drew1) | exact HB.out)))); have n1_ := Aside0.mk (below_step (by repeat (first | (with_reducible first | exact HB.out | apply below_alloc | apply pw_below_drewN | apply below_drew1) | exact HB.out)) hb); clear HB; have HO204 := n0_; have HB := n1_; clear n0_ n1_; (try clear hb); (try clear hb2); (try clear hk); (try clear hi); (try clear ho0)) | ((with_reducible refine gate_dst (N := 4) rfl ?_); (try (refine gate_guard (by rfl) ?_; dsimp only)); refine box_event ?hg (N := 4) ?hd (cs := #[.int .i64 0, .string (⟨#[]⟩ : ByteArray), .int .i64 0, .int .i64 0]) (t := 26) ?hr ?_; (case hd => rfl); (case hg => rfl); (case hr => first | (go_simp; done) | (go_simp; rfl)); intro gb209 hg w5 hbox hb; have n0_ := Aside0.mk (Kd.R_below (by (with_reducible repeat (first | apply Kd.R_alloc | apply Kd.R_drewN | apply Kd.R_drew)); exact HO204.out) hb); have n1_ := Aside0.mk (below_step (by repeat (first | (with_reducible first | exact HB.out | apply below_alloc | apply pw_below_drewN | apply below_drew1) | exact HB.out)) hb); have n2_ := Aside0.mk (hbox); have n3_ := Aside0.mk ((by rw [hg]; exact (below_size (by repeat (first | (with_reducible first | exact HB.out | apply below_alloc | apply pw_below_drewN | apply below_drew1) | exact HB.out))) : w.heap.size ≤ gb209)); have n4_ := Aside0.mk ((by rw [hg]; exact (below_size (by repeat (first | (with_reducible first | exact HB.out | apply below_alloc | apply pw_below_drewN | apply below_drew1) | exact HB.out))) : w.heap.size ≤ gb209)); clear HO204; clear HB; have HO204 := n0_; have HB := n1_; have BK209 := n2_; have GW209 := n3_; have GE209 := n4_; clear n0_ n1_ n2_ n3_ n4_; clear hb hbox hg; have hcz6_0 : w5.cell? ⟨gb209, 0, none⟩ = some (.int .i64 0) := (blk_cell BK209.out 0).trans rfl; have hcz6_1 : w5.cell? ⟨gb209, 1, none⟩ = some (.string (⟨#[]⟩ : ByteArray)) := (blk_cell BK209.out 1).trans rfl; have hcz6_2 : w5.cell? ⟨gb209, 2, none⟩ = some (.int .i64 0) := (blk_cell BK209.out 2).trans rfl; have hcz6_3 : w5.cell? ⟨gb209, 3, none⟩ = some (.int .i64 0) := (blk_cell BK209.out 3).trans rfl; have hfz6_0 := blk_frozen BK209.out 0; have hfz6_1 := blk_frozen BK209.out 1; have hfz6_2 := blk_frozen BK209.out 2; have hfz6_3 := blk_frozen BK209.out 3))
  (try simp only [Act.put, List.setIfInBounds_toArray, List.set_cons_zero, List.set_cons_succ])
  go_cut [24] (fun v24 wc => ∃ (kq : Nat) (x24_2 : Bool), v24 = .bool x24_2 ∧ Aside0 (sortilegelaw05_LexerPlaces.j0 kq a0 t202 x24_2 = some r) ∧ Aside0 (kq ≤ k) ∧ Aside0 (Kd.R k36 36 wc w.heap.size (fun _ => True) v203 t202) ∧ Aside0 (wc.heap[gb209]? = some (.cells #[.int .i64 t205, .string t206, .int .i64 t207, .int .i64 t208] 26 (0, 0))) ∧ Aside0 (Below w.heap.size w wc))
  case first =>
    have H := HC3.out
    clear HC3
    by_cases c7 : (a0.size : Int) > 9000
    · rw [if_pos c7] at H
      have c7b0 : decide (9000 < (a0.size : Int)) = true := decide_eq_true c7
      have c7b1 : decide (9000 < a0.size) = true := decide_eq_true (by omega)
      clear c7
      (first | rw [c7b0] | (simp only [i64_w, i32_w]; rw [c7b0]) | skip)
      have H' := Aside0.mk H
      clear H
      go_wp2
      go_meet
      case rel => exact ⟨_, (true), (by first | rfl | (simp; done) | (simp [*]; done)), H', ⟨by first | omega | exact Nat.le_refl _⟩, ⟨by (with_reducible repeat (first | apply Kd.R_alloc | apply Kd.R_drewN | apply Kd.R_drew)); exact Kd.R_mono (Kd.R_far (p := ⟨gb209, 3, none⟩) (Kd.R_far (p := ⟨gb209, 2, none⟩) (Kd.R_far (p := ⟨gb209, 1, none⟩) (Kd.R_far (p := ⟨gb209, 0, none⟩) (Kd.R_types HO204.out BK209.out (by decide)) (fun _ hk => hk.2) (.int .i64 t205)) (fun _ hk => hk.2) (.string t206)) (fun _ hk => hk.2) (.int .i64 t207)) (fun _ hk => hk.2) (.int .i64 t208)) (fun _ hk => trivial)⟩, ⟨by (with_reducible repeat (first | refine blk_drewN ?_ _ | refine blk_drew ?_ | refine blk_alloc ?_ _)); refine blk_put (cs := #[.int .i64 t205, .string t206, .int .i64 t207, .int .i64 0]) ?_ 3 _ rfl; (with_reducible repeat (first | refine blk_drewN ?_ _ | refine blk_drew ?_ | refine blk_alloc ?_ _)); refine blk_put (cs := #[.int .i64 t205, .string t206, .int .i64 0, .int .i64 0]) ?_ 2 _ rfl; (with_reducible repeat (first | refine blk_drewN ?_ _ | refine blk_drew ?_ | refine blk_alloc ?_ _)); refine blk_put (cs := #[.int .i64 t205, .string (⟨#[]⟩ : ByteArray), .int .i64 0, .int .i64 0]) ?_ 1 _ rfl; (with_reducible repeat (first | refine blk_drewN ?_ _ | refine blk_drew ?_ | refine blk_alloc ?_ _)); refine blk_put (cs := #[.int .i64 0, .string (⟨#[]⟩ : ByteArray), .int .i64 0, .int .i64 0]) ?_ 0 _ rfl; (with_reducible repeat (first | refine blk_drewN ?_ _ | refine blk_drew ?_ | refine blk_alloc ?_ _)); exact BK209.out⟩, ⟨by repeat (first | (with_reducible first | exact HB.out | apply below_alloc | apply pw_below_drewN | apply below_drew1 | refine below_set ?_ GE209.out) | exact HB.out)⟩⟩
    · rw [if_neg c7] at H
      have c7b0 : decide (9000 < (a0.size : Int)) = false := decide_eq_false c7
      have c7b1 : decide (9000 < a0.size) = false := decide_eq_false (by omega)
      clear c7
      (first | rw [c7b0] | (simp only [i64_w, i32_w]; rw [c7b0]) | skip)
      have H' := Aside0.mk H
      clear H
      have hcz8_0 : w5.cell? ⟨gb209, 0, none⟩ = some (.int .i64 0) := (blk_cell BK209.out 0).trans rfl
      have hcz8_1 : w5.cell? ⟨gb209, 1, none⟩ = some (.string (⟨#[]⟩ : ByteArray)) := (blk_cell BK209.out 1).trans rfl
      have hcz8_2 : w5.cell? ⟨gb209, 2, none⟩ = some (.int .i64 0) := (blk_cell BK209.out 2).trans rfl
      have hcz8_3 : w5.cell? ⟨gb209, 3, none⟩ = some (.int .i64 0) := (blk_cell BK209.out 3).trans rfl
      have hfz8_0 := blk_frozen BK209.out 0
      have hfz8_1 := blk_frozen BK209.out 1
      have hfz8_2 := blk_frozen BK209.out 2
      have hfz8_3 := blk_frozen BK209.out 3
      go_wp2
      go_meet
      case rel => exact ⟨_, ((t205 != 0)), (by first | rfl | (simp; done) | (simp [*]; done)), H', ⟨by first | omega | exact Nat.le_refl _⟩, ⟨by (with_reducible repeat (first | apply Kd.R_alloc | apply Kd.R_drewN | apply Kd.R_drew)); exact Kd.R_mono (Kd.R_far (p := ⟨gb209, 3, none⟩) (Kd.R_far (p := ⟨gb209, 2, none⟩) (Kd.R_far (p := ⟨gb209, 1, none⟩) (Kd.R_far (p := ⟨gb209, 0, none⟩) (Kd.R_types HO204.out BK209.out (by decide)) (fun _ hk => hk.2) (.int .i64 t205)) (fun _ hk => hk.2) (.string t206)) (fun _ hk => hk.2) (.int .i64 t207)) (fun _ hk => hk.2) (.int .i64 t208)) (fun _ hk => trivial)⟩, ⟨by (with_reducible repeat (first | refine blk_drewN ?_ _ | refine blk_drew ?_ | refine blk_alloc ?_ _)); refine blk_put (cs := #[.int .i64 t205, .string t206, .int .i64 t207, .int .i64 0]) ?_ 3 _ rfl; (with_reducible repeat (first | refine blk_drewN ?_ _ | refine blk_drew ?_ | refine blk_alloc ?_ _)); refine blk_put (cs := #[.int .i64 t205, .string t206, .int .i64 0, .int .i64 0]) ?_ 2 _ rfl; (with_reducible repeat (first | refine blk_drewN ?_ _ | refine blk_drew ?_ | refine blk_alloc ?_ _)); refine blk_put (cs := #[.int .i64 t205, .string (⟨#[]⟩ : ByteArray), .int .i64 0, .int .i64 0]) ?_ 1 _ rfl; (with_reducible repeat (first | refine blk_drewN ?_ _ | refine blk_drew ?_ | refine blk_alloc ?_ _)); refine blk_put (cs := #[.int .i64 0, .string (⟨#[]⟩ : ByteArray), .int .i64 0, .int .i64 0]) ?_ 0 _ rfl; (with_reducible repeat (first | refine blk_drewN ?_ _ | refine blk_drew ?_ | refine blk_alloc ?_ _)); exact BK209.out⟩, ⟨by repeat (first | (with_reducible first | exact HB.out | apply below_alloc | apply pw_below_drewN | apply below_drew1 | refine below_set ?_ GE209.out) | exact HB.out)⟩⟩
  case rest =>
    clear HC3
    try clear c1
    try clear p2
    try clear c7
    try clear c7b0
    try clear c7b1
    try clear hcz6_0
    try clear hcz6_1
    try clear hcz6_2
    try clear hcz6_3
    try clear hcz8_0
    try clear hcz8_1
    try clear hcz8_2
    try clear hcz8_3
    try clear hfz6_0
    try clear hfz6_1
    try clear hfz6_2
    try clear hfz6_3
    try clear hfz8_0
    try clear hfz8_1
    try clear hfz8_2
    try clear hfz8_3
    obtain ⟨kq, x24_2, rfl, HA, HJ2, HO_3, BK209, HB⟩ := hcut
    cases kq with
    | zero => exact absurd HA.out (by simp [sortilegelaw05_LexerPlaces.j0])
    | succ kj2 =>
      have H := HA.out
      clear HA
      simp only [sortilegelaw05_LexerPlaces.j0] at H
      by_cases c9 : x24_2 = true
      · subst c9
        have H1 : ((sortilegelaw05_awake.f kj2).bind fun t210 => (some t210)) = some r := by rw [if_pos rfl] at H; exact H
        clear H
        have H := H1
        clear H1
        replace H := Option.bind_eq_some_iff.mp H
        obtain ⟨t210, A100, H⟩ := H
        replace H : (some t210) = some r := H
        have A10 := Aside0.mk A100
        clear A100
        obtain rfl := Option.some.inj H
        go_wp2_with (first | ((with_reducible refine gate_callee (f := 9) rfl ?_); refine goesL_ (some 25) rfl rfl Try.func9 (by kernel_rfl) rfl #[] rfl (by (try simp only [List.map_toArray, List.map_cons, List.map_nil]); first | done | rfl | (simp only [List.length_drop, List.length_take]; rfl)) ?_; (with_reducible refine (sortilegelaw05_awake.calls kj2  t210 _ ?side1 A10.out).mono ?_); (case side1 => first | (with_reducible exact hs_) | exact Sane.below hs_ (by repeat (first | (with_reducible first | exact HB.out | apply below_alloc | apply pw_below_drewN | apply below_drew1 | refine below_set ?_ GE209.out) | exact HB.out))); rintro e w11 ⟨rfl, hb⟩; refine ⟨_, rfl, ?_⟩; have n0_ := Aside0.mk (Kd.R_below (by (with_reducible repeat (first | apply Kd.R_alloc | apply Kd.R_drewN | apply Kd.R_drew)); exact HO_3.out) hb); have n1_ := Aside0.mk (blk_below (g := gb209) (o := .cells #[.int .i64 t205, .string t206, .int .i64 t207, .int .i64 t208] 26 (0, 0)) (by (with_reducible repeat (first | refine blk_drewN ?_ _ | refine blk_drew ?_ | refine blk_alloc ?_ _)); exact BK209.out) hb); have n2_ := Aside0.mk (below_step (by repeat (first | (with_reducible first | exact HB.out | apply below_alloc | apply pw_below_drewN | apply below_drew1 | refine below_set ?_ GE209.out) | exact HB.out)) hb); clear HO_3; clear BK209; clear HB; have HO_3 := n0_; have BK209 := n1_; have HB := n2_; clear n0_ n1_ n2_; (try clear hb); (try clear hb2); (try clear hk); (try clear hi)))
        go_ret
        exact ⟨by first | rfl | (simp [errW_none, errW_some] <;> rfl) | (simp [*, errW_none, errW_some] <;> rfl), by repeat (first | (with_reducible first | exact HB.out | apply below_alloc | apply pw_below_drewN | apply below_drew1 | refine below_set ?_ GE209.out) | exact HB.out)⟩
      · replace c9 := Bool.eq_false_iff.mpr c9
        subst c9
        have H1 : (sortilegelaw05_LexerPlaces.l0 kj2 a0 t202 1 0 0 0) = some r := by rw [if_neg (show ¬ (false = true) by decide)] at H; exact H
        clear H
        have H := H1
        clear H1
        have H' := Aside0.mk H
        clear H
        go_wp2
        go_loopg [5, 6, 7, 8] kj2 (fun kq v5 v6 v7 v8 w' => ∃ (x5_2 : Int) (x6_2 : Int) (x7_2 : Int) (x8_2 : Int), v5 = .int .i64 x5_2 ∧ v6 = .int .i64 x6_2 ∧ v7 = .int .i64 x7_2 ∧ v8 = .int .i64 x8_2 ∧ Aside0 (sortilegelaw05_LexerPlaces.l0 kq a0 t202 x5_2 x6_2 x7_2 x8_2 = some r) ∧ Aside0 (kq ≤ kj2) ∧ Aside0 (Kd.R k36 36 w' w.heap.size (fun _ => True) v203 t202) ∧ Aside0 (w'.heap[gb209]? = some (.cells #[.int .i64 t205, .string t206, .int .i64 t207, .int .i64 t208] 26 (0, 0))) ∧ Aside0 (Below w.heap.size w w'))
        case atStart => exact ⟨(1), (0), (0), (0), (by first | rfl | (simp; done) | (simp [*]; done)), (by first | rfl | (simp; done) | (simp [*]; done)), (by first | rfl | (simp; done) | (simp [*]; done)), (by first | rfl | (simp; done) | (simp [*]; done)), H', ⟨Nat.le_refl _⟩, ⟨by (with_reducible repeat (first | apply Kd.R_alloc | apply Kd.R_drewN | apply Kd.R_drew)); exact HO_3.out⟩, ⟨by (with_reducible repeat (first | refine blk_drewN ?_ _ | refine blk_drew ?_ | refine blk_alloc ?_ _)); exact BK209.out⟩, ⟨by repeat (first | (with_reducible first | exact HB.out | apply below_alloc | apply pw_below_drewN | apply below_drew1 | refine below_set ?_ GE209.out) | exact HB.out)⟩⟩
        case round =>
          clear H'
          try clear c1
          try clear p2
          try clear c7
          try clear c7b0
          try clear c7b1
          try clear c9
          try clear c10
          try clear hcz6_0
          try clear hcz6_1
          try clear hcz6_2
          try clear hcz6_3
          try clear hcz8_0
          try clear hcz8_1
          try clear hcz8_2
          try clear hcz8_3
          try clear hfz6_0
          try clear hfz6_1
          try clear hfz6_2
          try clear hfz6_3
          try clear hfz8_0
          try clear hfz8_1
          try clear hfz8_2
          try clear hfz8_3
          try clear p2
          obtain ⟨x5_2, x6_2, x7_2, x8_2, rfl, rfl, rfl, rfl, HA, HK2, HO_3, BK209, HB⟩ := hrel
          cases gk with
          | zero => exact absurd HA.out (by simp [sortilegelaw05_LexerPlaces.l0])
          | succ k2 =>
            have H := HA.out
            clear HA
            simp only [sortilegelaw05_LexerPlaces.l0] at H
            by_cases c12 : x8_2 < (t202.length : Int)
            · rw [if_pos c12] at H
              have c12b0 : decide (x8_2 < (t202.length : Int)) = true := decide_eq_true c12
              clear c12
              have H' := Aside0.mk H
              clear H
              obtain ⟨Ao13, co13, eo13⟩ := Kd.R_slice HO_3.out
              subst eo13
              go_wp2
              go_loopg [5, 6, 7, 9] k2 (fun kq v5 v6 v7 v9 w' => ∃ (x5_3 : Int) (x6_3 : Int) (x7_3 : Int) (x9_3 : Bool), v5 = .int .i64 x5_3 ∧ v6 = .int .i64 x6_3 ∧ v7 = .int .i64 x7_3 ∧ v9 = .bool x9_3 ∧ Aside0 (sortilegelaw05_LexerPlaces.l1 kq a0 t202 x5_3 x6_3 x7_3 x8_2 x9_3 = some r) ∧ Aside0 (kq ≤ k2) ∧ Aside0 (Kd.R k36 36 w' w.heap.size (fun _ => True) (.slice Ao13 t202.length co13) t202) ∧ Aside0 (w'.heap[gb209]? = some (.cells #[.int .i64 t205, .string t206, .int .i64 t207, .int .i64 t208] 26 (0, 0))) ∧ Aside0 (Below w.heap.size w w'))
              case atStart => exact ⟨(x5_2), (x6_2), (x7_2), (false), (by first | rfl | (simp; done) | (simp [*]; done)), (by first | rfl | (simp; done) | (simp [*]; done)), (by first | rfl | (simp; done) | (simp [*]; done)), (by first | rfl | (simp; done) | (simp [*]; done)), H', ⟨Nat.le_refl _⟩, ⟨by (with_reducible repeat (first | apply Kd.R_alloc | apply Kd.R_drewN | apply Kd.R_drew)); exact HO_3.out⟩, ⟨by (with_reducible repeat (first | refine blk_drewN ?_ _ | refine blk_drew ?_ | refine blk_alloc ?_ _)); exact BK209.out⟩, ⟨by repeat (first | (with_reducible first | exact HB.out | apply below_alloc | apply pw_below_drewN | apply below_drew1 | refine below_set ?_ GE209.out) | exact HB.out)⟩⟩
              case round =>
                clear H'
                try clear c1
                try clear p2
                try clear c7
                try clear c7b0
                try clear c7b1
                try clear c9
                try clear c10
                try clear c12
                try clear c12b0
                try clear hcz6_0
                try clear hcz6_1
                try clear hcz6_2
                try clear hcz6_3
                try clear hcz8_0
                try clear hcz8_1
                try clear hcz8_2
                try clear hcz8_3
                try clear hfz6_0
                try clear hfz6_1
                try clear hfz6_2
                try clear hfz6_3
                try clear hfz8_0
                try clear hfz8_1
                try clear hfz8_2
                try clear hfz8_3
                try clear p2
                obtain ⟨x5_3, x6_3, x7_3, x9_3, rfl, rfl, rfl, rfl, HA, HK3, HO_3, BK209, HB⟩ := hrel
                cases gk with
                | zero => exact absurd HA.out (by simp [sortilegelaw05_LexerPlaces.l1])
                | succ k3 =>
                  have H := HA.out
                  clear HA
                  simp only [sortilegelaw05_LexerPlaces.l1] at H
                  have HC14 := Aside0.mk H
                  clear H
                  go_upto_region 9 with (fail)
                  go_cut [64] (fun v64 wc => ∃ (kq : Nat) (x64_13 : Bool), v64 = .bool x64_13 ∧ Aside0 (sortilegelaw05_LexerPlaces.j3 kq a0 t202 x5_3 x6_3 x7_3 x8_2 x9_3 x64_13 = some r) ∧ Aside0 (kq ≤ k3) ∧ Aside0 (Kd.R k36 36 wc w.heap.size (fun _ => True) (.slice Ao13 t202.length co13) t202) ∧ Aside0 (wc.heap[gb209]? = some (.cells #[.int .i64 t205, .string t206, .int .i64 t207, .int .i64 t208] 26 (0, 0))) ∧ Aside0 (Below w.heap.size w wc))
                  case first =>
                    have H := HC14.out
                    clear HC14
                    by_cases c15 : x7_3 < (a0.size : Int)
                    · rw [if_pos c15] at H
                      have c15b0 : decide (x7_3 < (a0.size : Int)) = true := decide_eq_true c15
                      clear c15
                      (first | rw [c15b0] | (simp only [i64_w, i32_w]; rw [c15b0]) | skip)
                      by_cases c16 : 0 ≤ x8_2
                      · rw [if_pos c16] at H
                        have c16b0 : decide (0 ≤ x8_2) = true := decide_eq_true c16
                        clear c16
                        by_cases c17 : x8_2 < (t202.length : Int)
                        · rw [if_pos c17] at H
                          have c17b0 : decide (x8_2 < (t202.length : Int)) = true := decide_eq_true c17
                          clear c17
                          by_cases c18 : ((rd_T36 t202 x8_2).f0) = 5
                          · rw [if_pos c18] at H
                            have c18b0 : (((rd_T36 t202 x8_2).f0) == 5) = true := beq_iff_eq.mpr c18
                            have c18b1 : (((rd_T36 t202 x8_2).f0) != 5) = false := bne_eq_false_iff_eq.mpr c18
                            clear c18
                            have H' := Aside0.mk H
                            clear H
                            have p213 : 0 ≤ (x8_2 : Int) := of_decide_eq_true (by first | (with_reducible assumption) | assumption)
                            have q213 : x8_2 < (t202.length : Int) := of_decide_eq_true (by first | (with_reducible assumption) | assumption)
                            obtain ⟨ad213, e213, hx213_0, hx213_1, hx213_2, hx213_3, hx213_4⟩ := at_T36 (Kd.R_reads' HO_3.out).2.2 x8_2 p213 q213
                            cases e213
                            replace p213 := eq_true p213
                            replace q213 := eq_true q213
                            go_wp2
                            go_meet
                            case rel => exact ⟨_, (true), (by first | rfl | (simp; done) | (simp [*]; done)), H', ⟨by have := HJ2.out; have := HK2.out; have := HK3.out; first | omega | exact Nat.le_refl _⟩, ⟨by (with_reducible repeat (first | apply Kd.R_alloc | apply Kd.R_drewN | apply Kd.R_drew)); exact HO_3.out⟩, ⟨by (with_reducible repeat (first | refine blk_drewN ?_ _ | refine blk_drew ?_ | refine blk_alloc ?_ _)); exact BK209.out⟩, ⟨by repeat (first | (with_reducible first | exact HB.out | apply below_alloc | apply pw_below_drewN | apply below_drew1 | refine below_set ?_ GE209.out) | exact HB.out)⟩⟩
                          · rw [if_neg c18] at H
                            have c18b0 : (((rd_T36 t202 x8_2).f0) == 5) = false := beq_eq_false_iff_ne.mpr c18
                            have c18b1 : (((rd_T36 t202 x8_2).f0) != 5) = true := bne_iff_ne.mpr c18
                            by_cases c19 : x5_3 < ((rd_T36 t202 x8_2).f3)
                            · rw [if_pos c19] at H
                              have c19b0 : decide (x5_3 < ((rd_T36 t202 x8_2).f3)) = true := decide_eq_true c19
                              clear c19
                              have H' := Aside0.mk H
                              clear H
                              have p213 : 0 ≤ (x8_2 : Int) := of_decide_eq_true (by first | (with_reducible assumption) | assumption)
                              have q213 : x8_2 < (t202.length : Int) := of_decide_eq_true (by first | (with_reducible assumption) | assumption)
                              obtain ⟨ad213, e213, hx213_0, hx213_1, hx213_2, hx213_3, hx213_4⟩ := at_T36 (Kd.R_reads' HO_3.out).2.2 x8_2 p213 q213
                              cases e213
                              replace p213 := eq_true p213
                              replace q213 := eq_true q213
                              have p214 : 0 ≤ (x8_2 : Int) := of_decide_eq_true (by first | (with_reducible assumption) | assumption)
                              have q214 : x8_2 < (t202.length : Int) := of_decide_eq_true (by first | (with_reducible assumption) | assumption)
                              obtain ⟨ad214, e214, hx214_0, hx214_1, hx214_2, hx214_3, hx214_4⟩ := at_T36 (Kd.R_reads' HO_3.out).2.2 x8_2 p214 q214
                              obtain rfl : ad213 = ad214 := (by injection e214)
                              replace p214 := eq_true p214
                              replace q214 := eq_true q214
                              go_wp2
                              go_meet
                              case rel => exact ⟨_, (true), (by first | rfl | (simp; done) | (simp [*]; done)), H', ⟨by have := HJ2.out; have := HK2.out; have := HK3.out; first | omega | exact Nat.le_refl _⟩, ⟨by (with_reducible repeat (first | apply Kd.R_alloc | apply Kd.R_drewN | apply Kd.R_drew)); exact HO_3.out⟩, ⟨by (with_reducible repeat (first | refine blk_drewN ?_ _ | refine blk_drew ?_ | refine blk_alloc ?_ _)); exact BK209.out⟩, ⟨by repeat (first | (with_reducible first | exact HB.out | apply below_alloc | apply pw_below_drewN | apply below_drew1 | refine below_set ?_ GE209.out) | exact HB.out)⟩⟩
                            · rw [if_neg c19] at H
                              have c19b0 : decide (x5_3 < ((rd_T36 t202 x8_2).f3)) = false := decide_eq_false c19
                              clear c19
                              have H' := Aside0.mk H
                              clear H
                              have p213 : 0 ≤ (x8_2 : Int) := of_decide_eq_true (by first | (with_reducible assumption) | assumption)
                              have q213 : x8_2 < (t202.length : Int) := of_decide_eq_true (by first | (with_reducible assumption) | assumption)
                              obtain ⟨ad213, e213, hx213_0, hx213_1, hx213_2, hx213_3, hx213_4⟩ := at_T36 (Kd.R_reads' HO_3.out).2.2 x8_2 p213 q213
                              cases e213
                              replace p213 := eq_true p213
                              replace q213 := eq_true q213
                              have p214 : 0 ≤ (x8_2 : Int) := of_decide_eq_true (by first | (with_reducible assumption) | assumption)
                              have q214 : x8_2 < (t202.length : Int) := of_decide_eq_true (by first | (with_reducible assumption) | assumption)
                              obtain ⟨ad214, e214, hx214_0, hx214_1, hx214_2, hx214_3, hx214_4⟩ := at_T36 (Kd.R_reads' HO_3.out).2.2 x8_2 p214 q214
                              obtain rfl : ad213 = ad214 := (by injection e214)
                              replace p214 := eq_true p214
                              replace q214 := eq_true q214
                              have p215 : 0 ≤ (x8_2 : Int) := of_decide_eq_true (by first | (with_reducible assumption) | assumption)
                              have q215 : x8_2 < (t202.length : Int) := of_decide_eq_true (by first | (with_reducible assumption) | assumption)
                              obtain ⟨ad215, e215, hx215_0, hx215_1, hx215_2, hx215_3, hx215_4⟩ := at_T36 (Kd.R_reads' HO_3.out).2.2 x8_2 p215 q215
                              obtain rfl : ad213 = ad215 := (by injection e215)
                              replace p215 := eq_true p215
                              replace q215 := eq_true q215
                              go_wp2
                              go_meet
                              case rel => exact ⟨_, (decide ((wrap64 ((wrap64 (x7_3 - x6_3)) + 1)) < ((rd_T36 t202 x8_2).f4))), (by first | rfl | (simp; done) | (simp [*]; done)), H', ⟨by have := HJ2.out; have := HK2.out; have := HK3.out; first | omega | exact Nat.le_refl _⟩, ⟨by (with_reducible repeat (first | apply Kd.R_alloc | apply Kd.R_drewN | apply Kd.R_drew)); exact HO_3.out⟩, ⟨by (with_reducible repeat (first | refine blk_drewN ?_ _ | refine blk_drew ?_ | refine blk_alloc ?_ _)); exact BK209.out⟩, ⟨by repeat (first | (with_reducible first | exact HB.out | apply below_alloc | apply pw_below_drewN | apply below_drew1 | refine below_set ?_ GE209.out) | exact HB.out)⟩⟩
                        · rw [if_neg c17] at H
                          exact absurd H (by simp)
                      · rw [if_neg c16] at H
                        exact absurd H (by simp)
                    · rw [if_neg c15] at H
                      have c15b0 : decide (x7_3 < (a0.size : Int)) = false := decide_eq_false c15
                      clear c15
                      (first | rw [c15b0] | (simp only [i64_w, i32_w]; rw [c15b0]) | skip)
                      have H' := Aside0.mk H
                      clear H
                      go_wp2
                      go_meet
                      case rel => exact ⟨_, (false), (by first | rfl | (simp; done) | (simp [*]; done)), H', ⟨by have := HJ2.out; have := HK2.out; have := HK3.out; first | omega | exact Nat.le_refl _⟩, ⟨by (with_reducible repeat (first | apply Kd.R_alloc | apply Kd.R_drewN | apply Kd.R_drew)); exact HO_3.out⟩, ⟨by (with_reducible repeat (first | refine blk_drewN ?_ _ | refine blk_drew ?_ | refine blk_alloc ?_ _)); exact BK209.out⟩, ⟨by repeat (first | (with_reducible first | exact HB.out | apply below_alloc | apply pw_below_drewN | apply below_drew1 | refine below_set ?_ GE209.out) | exact HB.out)⟩⟩
                  case rest =>
                    clear HC14
                    try clear c1
                    try clear p2
                    try clear q2
                    try clear hx2
                    try clear p6
                    try clear c7
                    try clear c7b0
                    try clear c7b1
                    try clear c9
                    try clear c10
                    try clear c12
                    try clear c12b0
                    try clear c15
                    try clear c15b0
                    try clear c16
                    try clear c16b0
                    try clear c17
                    try clear c17b0
                    try clear c18
                    try clear c18b0
                    try clear c18b1
                    try clear c19
                    try clear c19b0
                    try clear hcz6_0
                    try clear hcz6_1
                    try clear hcz6_2
                    try clear hcz6_3
                    try clear hcz8_0
                    try clear hcz8_1
                    try clear hcz8_2
                    try clear hcz8_3
                    try clear hfz6_0
                    try clear hfz6_1
                    try clear hfz6_2
                    try clear hfz6_3
                    try clear hfz8_0
                    try clear hfz8_1
                    try clear hfz8_2
                    try clear hfz8_3
                    try clear hx213_0
                    try clear hx213_1
                    try clear hx213_2
                    try clear hx213_3
                    try clear hx213_4
                    try clear hx214_0
                    try clear hx214_1
                    try clear hx214_2
                    try clear hx214_3
                    try clear hx214_4
                    try clear hx215_0
                    try clear hx215_1
                    try clear hx215_2
                    try clear hx215_3
                    try clear hx215_4
                    try clear p2
                    try clear p213
                    try clear p214
                    try clear p215
                    try clear q213
                    try clear q214
                    try clear q215
                    obtain ⟨kq, x64_13, rfl, HA, HJ13, HO_3, BK209, HB⟩ := hcut
                    cases kq with
                    | zero => exact absurd HA.out (by simp [sortilegelaw05_LexerPlaces.j3])
                    | succ kj13 =>
                      have H := HA.out
                      clear HA
                      simp only [sortilegelaw05_LexerPlaces.j3] at H
                      by_cases c20 : x64_13 = true
                      · subst c20
                        have H1 : (if 0 ≤ x7_3 then (if x7_3 < (a0.size : Int) then (if x9_3 = true then (if (bt a0 x7_3) = 10 then (sortilegelaw05_LexerPlaces.j4 kj13 a0 t202 x5_3 x6_3 x7_3 x8_2 ((bt a0 x7_3) == 35) (bt a0 x7_3)) else (sortilegelaw05_LexerPlaces.j4 kj13 a0 t202 x5_3 x6_3 x7_3 x8_2 true (bt a0 x7_3))) else (sortilegelaw05_LexerPlaces.j4 kj13 a0 t202 x5_3 x6_3 x7_3 x8_2 ((bt a0 x7_3) == 35) (bt a0 x7_3))) else (none)) else (none)) = some r := by rw [if_pos rfl] at H; exact H
                        clear H
                        have H := H1
                        clear H1
                        by_cases c21 : 0 ≤ x7_3
                        · rw [if_pos c21] at H
                          have c21b0 : decide (0 ≤ x7_3) = true := decide_eq_true c21
                          clear c21
                          by_cases c22 : x7_3 < (a0.size : Int)
                          · rw [if_pos c22] at H
                            have c22b0 : decide (x7_3 < (a0.size : Int)) = true := decide_eq_true c22
                            clear c22
                            have HC24 := Aside0.mk H
                            clear H
                            have p23 : 0 ≤ (x7_3 : Int) := of_decide_eq_true (by first | (with_reducible assumption) | assumption)
                            have q23 : x7_3 < (a0.size : Int) := of_decide_eq_true (by first | (with_reducible assumption) | assumption)
                            have hx23 := bt_at a0 x7_3
                            replace p23 := eq_true p23
                            replace q23 := eq_true q23
                            go_upto_region 11 with (fail)
                            go_cut [9] (fun v9 wc => ∃ (kq : Nat) (x9_23 : Bool), v9 = .bool x9_23 ∧ Aside0 (sortilegelaw05_LexerPlaces.j4 kq a0 t202 x5_3 x6_3 x7_3 x8_2 x9_23 (bt a0 x7_3) = some r) ∧ Aside0 (kq ≤ kj13) ∧ Aside0 (Kd.R k36 36 wc w.heap.size (fun _ => True) (.slice Ao13 t202.length co13) t202) ∧ Aside0 (wc.heap[gb209]? = some (.cells #[.int .i64 t205, .string t206, .int .i64 t207, .int .i64 t208] 26 (0, 0))) ∧ Aside0 (Below w.heap.size w wc))
                            case first =>
                              have H := HC24.out
                              clear HC24
                              by_cases c25 : x9_3 = true
                              · subst c25
                                have H1 : (if (bt a0 x7_3) = 10 then (sortilegelaw05_LexerPlaces.j4 kj13 a0 t202 x5_3 x6_3 x7_3 x8_2 ((bt a0 x7_3) == 35) (bt a0 x7_3)) else (sortilegelaw05_LexerPlaces.j4 kj13 a0 t202 x5_3 x6_3 x7_3 x8_2 true (bt a0 x7_3))) = some r := by rw [if_pos rfl] at H; exact H
                                clear H
                                have H := H1
                                clear H1
                                by_cases c26 : (bt a0 x7_3) = 10
                                · rw [if_pos c26] at H
                                  have c26b0 : ((bt a0 x7_3) == 10) = true := beq_iff_eq.mpr c26
                                  have c26b1 : ((bt a0 x7_3) != 10) = false := bne_eq_false_iff_eq.mpr c26
                                  clear c26
                                  (first | rw [c26b0] | (simp only [i64_w, i32_w]; rw [c26b0]) | skip)
                                  have H' := Aside0.mk H
                                  clear H
                                  go_wp2
                                  go_meet
                                  case rel => exact ⟨_, (((bt a0 x7_3) == 35)), (by first | rfl | (simp; done) | (simp [*]; done)), H', ⟨by have := HJ2.out; have := HK2.out; have := HK3.out; have := HJ13.out; first | omega | exact Nat.le_refl _⟩, ⟨by (with_reducible repeat (first | apply Kd.R_alloc | apply Kd.R_drewN | apply Kd.R_drew)); exact HO_3.out⟩, ⟨by (with_reducible repeat (first | refine blk_drewN ?_ _ | refine blk_drew ?_ | refine blk_alloc ?_ _)); exact BK209.out⟩, ⟨by repeat (first | (with_reducible first | exact HB.out | apply below_alloc | apply pw_below_drewN | apply below_drew1 | refine below_set ?_ GE209.out) | exact HB.out)⟩⟩
                                · rw [if_neg c26] at H
                                  have c26b0 : ((bt a0 x7_3) == 10) = false := beq_eq_false_iff_ne.mpr c26
                                  have c26b1 : ((bt a0 x7_3) != 10) = true := bne_iff_ne.mpr c26
                                  (first | rw [c26b0] | (simp only [i64_w, i32_w]; rw [c26b0]) | skip)
                                  have H' := Aside0.mk H
                                  clear H
                                  go_wp2
                                  go_meet
                                  case rel => exact ⟨_, (true), (by first | rfl | (simp; done) | (simp [*]; done)), H', ⟨by have := HJ2.out; have := HK2.out; have := HK3.out; have := HJ13.out; first | omega | exact Nat.le_refl _⟩, ⟨by (with_reducible repeat (first | apply Kd.R_alloc | apply Kd.R_drewN | apply Kd.R_drew)); exact HO_3.out⟩, ⟨by (with_reducible repeat (first | refine blk_drewN ?_ _ | refine blk_drew ?_ | refine blk_alloc ?_ _)); exact BK209.out⟩, ⟨by repeat (first | (with_reducible first | exact HB.out | apply below_alloc | apply pw_below_drewN | apply below_drew1 | refine below_set ?_ GE209.out) | exact HB.out)⟩⟩
                              · replace c25 := Bool.eq_false_iff.mpr c25
                                subst c25
                                have H1 : (sortilegelaw05_LexerPlaces.j4 kj13 a0 t202 x5_3 x6_3 x7_3 x8_2 ((bt a0 x7_3) == 35) (bt a0 x7_3)) = some r := by rw [if_neg (show ¬ (false = true) by decide)] at H; exact H
                                clear H
                                have H := H1
                                clear H1
                                have H' := Aside0.mk H
                                clear H
                                go_wp2
                                go_meet
                                case rel => exact ⟨_, (((bt a0 x7_3) == 35)), (by first | rfl | (simp; done) | (simp [*]; done)), H', ⟨by have := HJ2.out; have := HK2.out; have := HK3.out; have := HJ13.out; first | omega | exact Nat.le_refl _⟩, ⟨by (with_reducible repeat (first | apply Kd.R_alloc | apply Kd.R_drewN | apply Kd.R_drew)); exact HO_3.out⟩, ⟨by (with_reducible repeat (first | refine blk_drewN ?_ _ | refine blk_drew ?_ | refine blk_alloc ?_ _)); exact BK209.out⟩, ⟨by repeat (first | (with_reducible first | exact HB.out | apply below_alloc | apply pw_below_drewN | apply below_drew1 | refine below_set ?_ GE209.out) | exact HB.out)⟩⟩
                            case rest =>
                              clear HC24
                              try clear c1
                              try clear c2
                              try clear p2
                              try clear q2
                              try clear hx2
                              try clear p6
                              try clear c7
                              try clear c7b0
                              try clear c7b1
                              try clear c9
                              try clear c10
                              try clear c12
                              try clear c12b0
                              try clear c15
                              try clear c15b0
                              try clear c16
                              try clear c16b0
                              try clear c17
                              try clear c17b0
                              try clear c18
                              try clear c18b0
                              try clear c18b1
                              try clear c19
                              try clear c19b0
                              try clear c20
                              try clear c21
                              try clear c21b0
                              try clear p21
                              try clear q21
                              try clear hx21
                              try clear c22
                              try clear c22b0
                              try clear p23
                              try clear q23
                              try clear hx23
                              try clear c25
                              try clear c26
                              try clear c26b0
                              try clear c26b1
                              try clear hcz6_0
                              try clear hcz6_1
                              try clear hcz6_2
                              try clear hcz6_3
                              try clear hcz8_0
                              try clear hcz8_1
                              try clear hcz8_2
                              try clear hcz8_3
                              try clear hfz6_0
                              try clear hfz6_1
                              try clear hfz6_2
                              try clear hfz6_3
                              try clear hfz8_0
                              try clear hfz8_1
                              try clear hfz8_2
                              try clear hfz8_3
                              try clear hx213_0
                              try clear hx213_1
                              try clear hx213_2
                              try clear hx213_3
                              try clear hx213_4
                              try clear hx214_0
                              try clear hx214_1
                              try clear hx214_2
                              try clear hx214_3
                              try clear hx214_4
                              try clear hx215_0
                              try clear hx215_1
                              try clear hx215_2
                              try clear hx215_3
                              try clear hx215_4
                              try clear p2
                              try clear p213
                              try clear p214
                              try clear p215
                              try clear p23
                              try clear p6
                              try clear q2
                              try clear q213
                              try clear q214
                              try clear q215
                              try clear q23
                              obtain ⟨kq, x9_23, rfl, HA, HJ23, HO_3, BK209, HB⟩ := hcut
                              cases kq with
                              | zero => exact absurd HA.out (by simp [sortilegelaw05_LexerPlaces.j4])
                              | succ kj23 =>
                                have H := HA.out
                                clear HA
                                simp only [sortilegelaw05_LexerPlaces.j4] at H
                                have HC27 := Aside0.mk H
                                clear H
                                go_upto_region 12 with (fail)
                                go_cut [94] (fun v94 wc => ∃ (kq : Nat) (x94_26 : Bool), v94 = .bool x94_26 ∧ Aside0 (sortilegelaw05_LexerPlaces.j5 kq a0 t202 x5_3 x6_3 x7_3 x8_2 x9_23 (bt a0 x7_3) x94_26 = some r) ∧ Aside0 (kq ≤ kj23) ∧ Aside0 (Kd.R k36 36 wc w.heap.size (fun _ => True) (.slice Ao13 t202.length co13) t202) ∧ Aside0 (wc.heap[gb209]? = some (.cells #[.int .i64 t205, .string t206, .int .i64 t207, .int .i64 t208] 26 (0, 0))) ∧ Aside0 (Below w.heap.size w wc))
                                case first =>
                                  have H := HC27.out
                                  clear HC27
                                  by_cases c28 : x9_23 = true
                                  · subst c28
                                    have H1 : (sortilegelaw05_LexerPlaces.j5 kj23 a0 t202 x5_3 x6_3 x7_3 x8_2 true (bt a0 x7_3) false) = some r := by rw [if_pos rfl] at H; exact H
                                    clear H
                                    have H := H1
                                    clear H1
                                    have H' := Aside0.mk H
                                    clear H
                                    go_wp2
                                    go_meet
                                    case rel => exact ⟨_, (false), (by first | rfl | (simp; done) | (simp [*]; done)), H', ⟨by have := HJ2.out; have := HK2.out; have := HK3.out; have := HJ13.out; have := HJ23.out; first | omega | exact Nat.le_refl _⟩, ⟨by (with_reducible repeat (first | apply Kd.R_alloc | apply Kd.R_drewN | apply Kd.R_drew)); exact HO_3.out⟩, ⟨by (with_reducible repeat (first | refine blk_drewN ?_ _ | refine blk_drew ?_ | refine blk_alloc ?_ _)); exact BK209.out⟩, ⟨by repeat (first | (with_reducible first | exact HB.out | apply below_alloc | apply pw_below_drewN | apply below_drew1 | refine below_set ?_ GE209.out) | exact HB.out)⟩⟩
                                  · replace c28 := Bool.eq_false_iff.mpr c28
                                    subst c28
                                    have H1 : (if (bt a0 x7_3) = 32 then (sortilegelaw05_LexerPlaces.j5 kj23 a0 t202 x5_3 x6_3 x7_3 x8_2 false (bt a0 x7_3) false) else (if (bt a0 x7_3) = 9 then (sortilegelaw05_LexerPlaces.j5 kj23 a0 t202 x5_3 x6_3 x7_3 x8_2 false (bt a0 x7_3) false) else (if (bt a0 x7_3) = 10 then (sortilegelaw05_LexerPlaces.j5 kj23 a0 t202 x5_3 x6_3 x7_3 x8_2 false (bt a0 x7_3) false) else (sortilegelaw05_LexerPlaces.j5 kj23 a0 t202 x5_3 x6_3 x7_3 x8_2 false (bt a0 x7_3) ((bt a0 x7_3) != 13))))) = some r := by rw [if_neg (show ¬ (false = true) by decide)] at H; exact H
                                    clear H
                                    have H := H1
                                    clear H1
                                    by_cases c29 : (bt a0 x7_3) = 32
                                    · rw [if_pos c29] at H
                                      have c29b0 : ((bt a0 x7_3) == 32) = true := beq_iff_eq.mpr c29
                                      have c29b1 : ((bt a0 x7_3) != 32) = false := bne_eq_false_iff_eq.mpr c29
                                      clear c29
                                      (first | rw [c29b0] | (simp only [i64_w, i32_w]; rw [c29b0]) | skip)
                                      have H' := Aside0.mk H
                                      clear H
                                      go_wp2
                                      go_meet
                                      case rel => exact ⟨_, (false), (by first | rfl | (simp; done) | (simp [*]; done)), H', ⟨by have := HJ2.out; have := HK2.out; have := HK3.out; have := HJ13.out; have := HJ23.out; first | omega | exact Nat.le_refl _⟩, ⟨by (with_reducible repeat (first | apply Kd.R_alloc | apply Kd.R_drewN | apply Kd.R_drew)); exact HO_3.out⟩, ⟨by (with_reducible repeat (first | refine blk_drewN ?_ _ | refine blk_drew ?_ | refine blk_alloc ?_ _)); exact BK209.out⟩, ⟨by repeat (first | (with_reducible first | exact HB.out | apply below_alloc | apply pw_below_drewN | apply below_drew1 | refine below_set ?_ GE209.out) | exact HB.out)⟩⟩
                                    · rw [if_neg c29] at H
                                      have c29b0 : ((bt a0 x7_3) == 32) = false := beq_eq_false_iff_ne.mpr c29
                                      have c29b1 : ((bt a0 x7_3) != 32) = true := bne_iff_ne.mpr c29
                                      (first | rw [c29b0] | (simp only [i64_w, i32_w]; rw [c29b0]) | skip)
                                      by_cases c30 : (bt a0 x7_3) = 9
                                      · rw [if_pos c30] at H
                                        have c30b0 : ((bt a0 x7_3) == 9) = true := beq_iff_eq.mpr c30
                                        have c30b1 : ((bt a0 x7_3) != 9) = false := bne_eq_false_iff_eq.mpr c30
                                        clear c30
                                        have H' := Aside0.mk H
                                        clear H
                                        go_wp2
                                        go_meet
                                        case rel => exact ⟨_, (false), (by first | rfl | (simp; done) | (simp [*]; done)), H', ⟨by have := HJ2.out; have := HK2.out; have := HK3.out; have := HJ13.out; have := HJ23.out; first | omega | exact Nat.le_refl _⟩, ⟨by (with_reducible repeat (first | apply Kd.R_alloc | apply Kd.R_drewN | apply Kd.R_drew)); exact HO_3.out⟩, ⟨by (with_reducible repeat (first | refine blk_drewN ?_ _ | refine blk_drew ?_ | refine blk_alloc ?_ _)); exact BK209.out⟩, ⟨by repeat (first | (with_reducible first | exact HB.out | apply below_alloc | apply pw_below_drewN | apply below_drew1 | refine below_set ?_ GE209.out) | exact HB.out)⟩⟩
                                      · rw [if_neg c30] at H
                                        have c30b0 : ((bt a0 x7_3) == 9) = false := beq_eq_false_iff_ne.mpr c30
                                        have c30b1 : ((bt a0 x7_3) != 9) = true := bne_iff_ne.mpr c30
                                        by_cases c31 : (bt a0 x7_3) = 10
                                        · rw [if_pos c31] at H
                                          have c31b0 : ((bt a0 x7_3) == 10) = true := beq_iff_eq.mpr c31
                                          have c31b1 : ((bt a0 x7_3) != 10) = false := bne_eq_false_iff_eq.mpr c31
                                          clear c31
                                          have H' := Aside0.mk H
                                          clear H
                                          go_wp2
                                          go_meet
                                          case rel => exact ⟨_, (false), (by first | rfl | (simp; done) | (simp [*]; done)), H', ⟨by have := HJ2.out; have := HK2.out; have := HK3.out; have := HJ13.out; have := HJ23.out; first | omega | exact Nat.le_refl _⟩, ⟨by (with_reducible repeat (first | apply Kd.R_alloc | apply Kd.R_drewN | apply Kd.R_drew)); exact HO_3.out⟩, ⟨by (with_reducible repeat (first | refine blk_drewN ?_ _ | refine blk_drew ?_ | refine blk_alloc ?_ _)); exact BK209.out⟩, ⟨by repeat (first | (with_reducible first | exact HB.out | apply below_alloc | apply pw_below_drewN | apply below_drew1 | refine below_set ?_ GE209.out) | exact HB.out)⟩⟩
                                        · rw [if_neg c31] at H
                                          have c31b0 : ((bt a0 x7_3) == 10) = false := beq_eq_false_iff_ne.mpr c31
                                          have c31b1 : ((bt a0 x7_3) != 10) = true := bne_iff_ne.mpr c31
                                          have H' := Aside0.mk H
                                          clear H
                                          go_wp2
                                          go_meet
                                          case rel => exact ⟨_, (((bt a0 x7_3) != 13)), (by first | rfl | (simp; done) | (simp [*]; done)), H', ⟨by have := HJ2.out; have := HK2.out; have := HK3.out; have := HJ13.out; have := HJ23.out; first | omega | exact Nat.le_refl _⟩, ⟨by (with_reducible repeat (first | apply Kd.R_alloc | apply Kd.R_drewN | apply Kd.R_drew)); exact HO_3.out⟩, ⟨by (with_reducible repeat (first | refine blk_drewN ?_ _ | refine blk_drew ?_ | refine blk_alloc ?_ _)); exact BK209.out⟩, ⟨by repeat (first | (with_reducible first | exact HB.out | apply below_alloc | apply pw_below_drewN | apply below_drew1 | refine below_set ?_ GE209.out) | exact HB.out)⟩⟩
                                case rest =>
                                  clear HC27
                                  try clear c1
                                  try clear c2
                                  try clear p2
                                  try clear q2
                                  try clear hx2
                                  try clear c3
                                  try clear p6
                                  try clear c7
                                  try clear c7b0
                                  try clear c7b1
                                  try clear c9
                                  try clear c10
                                  try clear c12
                                  try clear c12b0
                                  try clear c15
                                  try clear c15b0
                                  try clear c16
                                  try clear c16b0
                                  try clear c17
                                  try clear c17b0
                                  try clear c18
                                  try clear c18b0
                                  try clear c18b1
                                  try clear c19
                                  try clear c19b0
                                  try clear c20
                                  try clear c21
                                  try clear c21b0
                                  try clear p21
                                  try clear q21
                                  try clear hx21
                                  try clear c22
                                  try clear c22b0
                                  try clear p23
                                  try clear q23
                                  try clear hx23
                                  try clear c25
                                  try clear c26
                                  try clear c26b0
                                  try clear c26b1
                                  try clear c28
                                  try clear c29
                                  try clear c29b0
                                  try clear c29b1
                                  try clear c30
                                  try clear c30b0
                                  try clear c30b1
                                  try clear c31
                                  try clear c31b0
                                  try clear c31b1
                                  try clear hcz6_0
                                  try clear hcz6_1
                                  try clear hcz6_2
                                  try clear hcz6_3
                                  try clear hcz8_0
                                  try clear hcz8_1
                                  try clear hcz8_2
                                  try clear hcz8_3
                                  try clear hfz6_0
                                  try clear hfz6_1
                                  try clear hfz6_2
                                  try clear hfz6_3
                                  try clear hfz8_0
                                  try clear hfz8_1
                                  try clear hfz8_2
                                  try clear hfz8_3
                                  try clear hx213_0
                                  try clear hx213_1
                                  try clear hx213_2
                                  try clear hx213_3
                                  try clear hx213_4
                                  try clear hx214_0
                                  try clear hx214_1
                                  try clear hx214_2
                                  try clear hx214_3
                                  try clear hx214_4
                                  try clear hx215_0
                                  try clear hx215_1
                                  try clear hx215_2
                                  try clear hx215_3
                                  try clear hx215_4
                                  try clear p2
                                  try clear p21
                                  try clear p213
                                  try clear p214
                                  try clear p215
                                  try clear p23
                                  try clear p6
                                  try clear q2
                                  try clear q21
                                  try clear q213
                                  try clear q214
                                  try clear q215
                                  try clear q23
                                  obtain ⟨kq, x94_26, rfl, HA, HJ26, HO_3, BK209, HB⟩ := hcut
                                  cases kq with
                                  | zero => exact absurd HA.out (by simp [sortilegelaw05_LexerPlaces.j5])
                                  | succ kj26 =>
                                    have H := HA.out
                                    clear HA
                                    simp only [sortilegelaw05_LexerPlaces.j5] at H
                                    by_cases c32 : x94_26 = true
                                    · subst c32
                                      have H1 : (some false) = some r := by rw [if_pos rfl] at H; exact H
                                      clear H
                                      have H := H1
                                      clear H1
                                      obtain rfl := Option.some.inj H
                                      go_wp2
                                      go_ret
                                      exact ⟨by first | rfl | (simp [errW_none, errW_some] <;> rfl) | (simp [*, errW_none, errW_some] <;> rfl), by repeat (first | (with_reducible first | exact HB.out | apply below_alloc | apply pw_below_drewN | apply below_drew1 | refine below_set ?_ GE209.out) | exact HB.out)⟩
                                    · replace c32 := Bool.eq_false_iff.mpr c32
                                      subst c32
                                      have H1 : (if (bt a0 x7_3) = 10 then (sortilegelaw05_LexerPlaces.l1 kj26 a0 t202 (wrap64 (x5_3 + 1)) (wrap64 (x7_3 + 1)) (wrap64 (x7_3 + 1)) x8_2 x9_23) else (sortilegelaw05_LexerPlaces.l1 kj26 a0 t202 x5_3 x6_3 (wrap64 (x7_3 + 1)) x8_2 x9_23)) = some r := by rw [if_neg (show ¬ (false = true) by decide)] at H; exact H
                                      clear H
                                      have H := H1
                                      clear H1
                                      by_cases c33 : (bt a0 x7_3) = 10
                                      · rw [if_pos c33] at H
                                        have c33b0 : ((bt a0 x7_3) == 10) = true := beq_iff_eq.mpr c33
                                        have c33b1 : ((bt a0 x7_3) != 10) = false := bne_eq_false_iff_eq.mpr c33
                                        clear c33
                                        have H' := Aside0.mk H
                                        clear H
                                        go_wp2
                                        go_roundg kj26
                                        case measure => have := HJ2.out; have := HK2.out; have := HK3.out; have := HJ13.out; have := HJ23.out; have := HJ26.out; omega
                                        case rel => exact ⟨(wrap64 (x5_3 + 1)), (wrap64 (x7_3 + 1)), (wrap64 (x7_3 + 1)), (x9_23), (by first | rfl | (simp; done) | (simp [*]; done)), (by first | rfl | (simp; done) | (simp [*]; done)), (by first | rfl | (simp; done) | (simp [*]; done)), (by first | rfl | (simp; done) | (simp [*]; done)), H', ⟨by have := HJ2.out; have := HK2.out; have := HK3.out; have := HJ13.out; have := HJ23.out; have := HJ26.out; omega⟩, ⟨by (with_reducible repeat (first | apply Kd.R_alloc | apply Kd.R_drewN | apply Kd.R_drew)); exact HO_3.out⟩, ⟨by (with_reducible repeat (first | refine blk_drewN ?_ _ | refine blk_drew ?_ | refine blk_alloc ?_ _)); exact BK209.out⟩, ⟨by repeat (first | (with_reducible first | exact HB.out | apply below_alloc | apply pw_below_drewN | apply below_drew1 | refine below_set ?_ GE209.out) | exact HB.out)⟩⟩
                                      · rw [if_neg c33] at H
                                        have c33b0 : ((bt a0 x7_3) == 10) = false := beq_eq_false_iff_ne.mpr c33
                                        have c33b1 : ((bt a0 x7_3) != 10) = true := bne_iff_ne.mpr c33
                                        have H' := Aside0.mk H
                                        clear H
                                        go_wp2
                                        go_roundg kj26
                                        case measure => have := HJ2.out; have := HK2.out; have := HK3.out; have := HJ13.out; have := HJ23.out; have := HJ26.out; omega
                                        case rel => exact ⟨(x5_3), (x6_3), (wrap64 (x7_3 + 1)), (x9_23), (by first | rfl | (simp; done) | (simp [*]; done)), (by first | rfl | (simp; done) | (simp [*]; done)), (by first | rfl | (simp; done) | (simp [*]; done)), (by first | rfl | (simp; done) | (simp [*]; done)), H', ⟨by have := HJ2.out; have := HK2.out; have := HK3.out; have := HJ13.out; have := HJ23.out; have := HJ26.out; omega⟩, ⟨by (with_reducible repeat (first | apply Kd.R_alloc | apply Kd.R_drewN | apply Kd.R_drew)); exact HO_3.out⟩, ⟨by (with_reducible repeat (first | refine blk_drewN ?_ _ | refine blk_drew ?_ | refine blk_alloc ?_ _)); exact BK209.out⟩, ⟨by repeat (first | (with_reducible first | exact HB.out | apply below_alloc | apply pw_below_drewN | apply below_drew1 | refine below_set ?_ GE209.out) | exact HB.out)⟩⟩
                          · rw [if_neg c22] at H
                            exact absurd H (by simp)
                        · rw [if_neg c21] at H
                          exact absurd H (by simp)
                      · replace c20 := Bool.eq_false_iff.mpr c20
                        subst c20
                        have H1 : (if 0 ≤ x8_2 then (if x8_2 < (t202.length : Int) then (if ((rd_T36 t202 x8_2).f3) = x5_3 then (if ((rd_T36 t202 x8_2).f4) = (wrap64 ((wrap64 (x7_3 - x6_3)) + 1)) then (if (wrap64 (x7_3 + (((rd_T36 t202 x8_2).f1).size : Int))) > (a0.size : Int) then (some false) else (if 0 ≤ x7_3 then (if x7_3 ≤ (wrap64 (x7_3 + (((rd_T36 t202 x8_2).f1).size : Int))) then (if (wrap64 (x7_3 + (((rd_T36 t202 x8_2).f1).size : Int))) ≤ (a0.size : Int) then (if (a0.extract (x7_3 : Int).toNat ((wrap64 (x7_3 + (((rd_T36 t202 x8_2).f1).size : Int))) : Int).toNat).toList = ((rd_T36 t202 x8_2).f1).toList then (if ((((rd_T36 t202 x8_2).f1).toList == ([] : List UInt8)) != (((rd_T36 t202 x8_2).f0) == 5)) = true then (some false) else (sortilegelaw05_LexerPlaces.l0 kj13 a0 t202 x5_3 x6_3 (wrap64 (x7_3 + (((rd_T36 t202 x8_2).f1).size : Int))) (wrap64 (x8_2 + 1)))) else (some false)) else (none)) else (none)) else (none))) else (some false)) else (some false)) else (none)) else (none)) = some r := by rw [if_neg (show ¬ (false = true) by decide)] at H; exact H
                        clear H
                        have H := H1
                        clear H1
                        by_cases c34 : 0 ≤ x8_2
                        · rw [if_pos c34] at H
                          have c34b0 : decide (0 ≤ x8_2) = true := decide_eq_true c34
                          clear c34
                          by_cases c35 : x8_2 < (t202.length : Int)
                          · rw [if_pos c35] at H
                            have c35b0 : decide (x8_2 < (t202.length : Int)) = true := decide_eq_true c35
                            clear c35
                            by_cases c36 : ((rd_T36 t202 x8_2).f3) = x5_3
                            · rw [if_pos c36] at H
                              have c36b0 : (((rd_T36 t202 x8_2).f3) == x5_3) = true := beq_iff_eq.mpr c36
                              have c36b1 : (((rd_T36 t202 x8_2).f3) != x5_3) = false := bne_eq_false_iff_eq.mpr c36
                              clear c36
                              by_cases c37 : ((rd_T36 t202 x8_2).f4) = (wrap64 ((wrap64 (x7_3 - x6_3)) + 1))
                              · rw [if_pos c37] at H
                                have c37b0 : (((rd_T36 t202 x8_2).f4) == (wrap64 ((wrap64 (x7_3 - x6_3)) + 1))) = true := beq_iff_eq.mpr c37
                                have c37b1 : (((rd_T36 t202 x8_2).f4) != (wrap64 ((wrap64 (x7_3 - x6_3)) + 1))) = false := bne_eq_false_iff_eq.mpr c37
                                clear c37
                                by_cases c38 : (wrap64 (x7_3 + (((rd_T36 t202 x8_2).f1).size : Int))) > (a0.size : Int)
                                · rw [if_pos c38] at H
                                  have c38b0 : decide ((a0.size : Int) < (wrap64 (x7_3 + (((rd_T36 t202 x8_2).f1).size : Int)))) = true := decide_eq_true c38
                                  clear c38
                                  obtain rfl := Option.some.inj H
                                  have p216 : 0 ≤ (x8_2 : Int) := of_decide_eq_true (by first | (with_reducible assumption) | assumption)
                                  have q216 : x8_2 < (t202.length : Int) := of_decide_eq_true (by first | (with_reducible assumption) | assumption)
                                  obtain ⟨ad216, e216, hx216_0, hx216_1, hx216_2, hx216_3, hx216_4⟩ := at_T36 (Kd.R_reads' HO_3.out).2.2 x8_2 p216 q216
                                  cases e216
                                  replace p216 := eq_true p216
                                  replace q216 := eq_true q216
                                  have p217 : 0 ≤ (x8_2 : Int) := of_decide_eq_true (by first | (with_reducible assumption) | assumption)
                                  have q217 : x8_2 < (t202.length : Int) := of_decide_eq_true (by first | (with_reducible assumption) | assumption)
                                  obtain ⟨ad217, e217, hx217_0, hx217_1, hx217_2, hx217_3, hx217_4⟩ := at_T36 (Kd.R_reads' HO_3.out).2.2 x8_2 p217 q217
                                  obtain rfl : ad216 = ad217 := (by injection e217)
                                  replace p217 := eq_true p217
                                  replace q217 := eq_true q217
                                  have p218 : 0 ≤ (x8_2 : Int) := of_decide_eq_true (by first | (with_reducible assumption) | assumption)
                                  have q218 : x8_2 < (t202.length : Int) := of_decide_eq_true (by first | (with_reducible assumption) | assumption)
                                  obtain ⟨ad218, e218, hx218_0, hx218_1, hx218_2, hx218_3, hx218_4⟩ := at_T36 (Kd.R_reads' HO_3.out).2.2 x8_2 p218 q218
                                  obtain rfl : ad216 = ad218 := (by injection e218)
                                  replace p218 := eq_true p218
                                  replace q218 := eq_true q218
                                  go_wp2
                                  go_ret
                                  exact ⟨by first | rfl | (simp [errW_none, errW_some] <;> rfl) | (simp [*, errW_none, errW_some] <;> rfl), by repeat (first | (with_reducible first | exact HB.out | apply below_alloc | apply pw_below_drewN | apply below_drew1 | refine below_set ?_ GE209.out) | exact HB.out)⟩
                                · rw [if_neg c38] at H
                                  have c38b0 : decide ((a0.size : Int) < (wrap64 (x7_3 + (((rd_T36 t202 x8_2).f1).size : Int)))) = false := decide_eq_false c38
                                  clear c38
                                  by_cases c39 : 0 ≤ x7_3
                                  · rw [if_pos c39] at H
                                    have c39b0 := eq_true c39
                                    have c39b1 : decide (0 ≤ x7_3) = true := decide_eq_true c39
                                    clear c39
                                    by_cases c40 : x7_3 ≤ (wrap64 (x7_3 + (((rd_T36 t202 x8_2).f1).size : Int)))
                                    · rw [if_pos c40] at H
                                      have c40b0 := eq_true c40
                                      have c40b1 : decide (x7_3 ≤ (wrap64 (x7_3 + (((rd_T36 t202 x8_2).f1).size : Int)))) = true := decide_eq_true c40
                                      by_cases c41 : (wrap64 (x7_3 + (((rd_T36 t202 x8_2).f1).size : Int))) ≤ (a0.size : Int)
                                      · rw [if_pos c41] at H
                                        have c41b0 := eq_true c41
                                        have c41b1 : decide ((wrap64 (x7_3 + (((rd_T36 t202 x8_2).f1).size : Int))) ≤ (a0.size : Int)) = true := decide_eq_true c41
                                        by_cases c42 : (a0.extract (x7_3 : Int).toNat ((wrap64 (x7_3 + (((rd_T36 t202 x8_2).f1).size : Int))) : Int).toNat).toList = ((rd_T36 t202 x8_2).f1).toList
                                        · rw [if_pos c42] at H
                                          have c42b0 : ((a0.extract (x7_3 : Int).toNat ((wrap64 (x7_3 + (((rd_T36 t202 x8_2).f1).size : Int))) : Int).toNat).toList == ((rd_T36 t202 x8_2).f1).toList) = true := beq_iff_eq.mpr c42
                                          have c42b1 : ((a0.extract (x7_3 : Int).toNat ((wrap64 (x7_3 + (((rd_T36 t202 x8_2).f1).size : Int))) : Int).toNat).toList != ((rd_T36 t202 x8_2).f1).toList) = false := bne_eq_false_iff_eq.mpr c42
                                          clear c42
                                          by_cases c43 : ((((rd_T36 t202 x8_2).f1).toList == ([] : List UInt8)) != (((rd_T36 t202 x8_2).f0) == 5)) = true
                                          · rw [if_pos c43] at H
                                            have c43b0 : ((((rd_T36 t202 x8_2).f1).toList == ([] : List UInt8)) != (((rd_T36 t202 x8_2).f0) == 5)) = true := c43
                                            have c43z : (!((rd_T36 t202 x8_2).f1).toList.isEmpty == (((rd_T36 t202 x8_2).f0) == 5)) = true := (ne_spell _ _).trans c43b0
                                            (try (have c43b1 : decide ((((rd_T36 t202 x8_2).f1).toList == ([] : List UInt8)) = (((rd_T36 t202 x8_2).f0) == 5)) = false := by simpa using c43))
                                            (try (have c43b2 : ((((rd_T36 t202 x8_2).f1).toList == ([] : List UInt8)) == (((rd_T36 t202 x8_2).f0) == 5)) = false := by simpa using c43))
                                            (try (have c43b3 : ¬ ((((rd_T36 t202 x8_2).f1).toList == ([] : List UInt8)) = (((rd_T36 t202 x8_2).f0) == 5)) := by simpa using c43))
                                            clear c43
                                            obtain rfl := Option.some.inj H
                                            have p216 : 0 ≤ (x8_2 : Int) := of_decide_eq_true (by first | (with_reducible assumption) | assumption)
                                            have q216 : x8_2 < (t202.length : Int) := of_decide_eq_true (by first | (with_reducible assumption) | assumption)
                                            obtain ⟨ad216, e216, hx216_0, hx216_1, hx216_2, hx216_3, hx216_4⟩ := at_T36 (Kd.R_reads' HO_3.out).2.2 x8_2 p216 q216
                                            cases e216
                                            replace p216 := eq_true p216
                                            replace q216 := eq_true q216
                                            have p217 : 0 ≤ (x8_2 : Int) := of_decide_eq_true (by first | (with_reducible assumption) | assumption)
                                            have q217 : x8_2 < (t202.length : Int) := of_decide_eq_true (by first | (with_reducible assumption) | assumption)
                                            obtain ⟨ad217, e217, hx217_0, hx217_1, hx217_2, hx217_3, hx217_4⟩ := at_T36 (Kd.R_reads' HO_3.out).2.2 x8_2 p217 q217
                                            obtain rfl : ad216 = ad217 := (by injection e217)
                                            replace p217 := eq_true p217
                                            replace q217 := eq_true q217
                                            have p218 : 0 ≤ (x8_2 : Int) := of_decide_eq_true (by first | (with_reducible assumption) | assumption)
                                            have q218 : x8_2 < (t202.length : Int) := of_decide_eq_true (by first | (with_reducible assumption) | assumption)
                                            obtain ⟨ad218, e218, hx218_0, hx218_1, hx218_2, hx218_3, hx218_4⟩ := at_T36 (Kd.R_reads' HO_3.out).2.2 x8_2 p218 q218
                                            obtain rfl : ad216 = ad218 := (by injection e218)
                                            replace p218 := eq_true p218
                                            replace q218 := eq_true q218
                                            have p219 : 0 ≤ (x8_2 : Int) := of_decide_eq_true (by first | (with_reducible assumption) | assumption)
                                            have q219 : x8_2 < (t202.length : Int) := of_decide_eq_true (by first | (with_reducible assumption) | assumption)
                                            obtain ⟨ad219, e219, hx219_0, hx219_1, hx219_2, hx219_3, hx219_4⟩ := at_T36 (Kd.R_reads' HO_3.out).2.2 x8_2 p219 q219
                                            obtain rfl : ad216 = ad219 := (by injection e219)
                                            replace p219 := eq_true p219
                                            replace q219 := eq_true q219
                                            go_wp2
                                            go_ret
                                            exact ⟨by first | rfl | (simp [errW_none, errW_some] <;> rfl) | (simp [*, errW_none, errW_some] <;> rfl), by repeat (first | (with_reducible first | exact HB.out | apply below_alloc | apply pw_below_drewN | apply below_drew1 | refine below_set ?_ GE209.out) | exact HB.out)⟩
                                          · rw [if_neg c43] at H
                                            have c43b0 : ((((rd_T36 t202 x8_2).f1).toList == ([] : List UInt8)) != (((rd_T36 t202 x8_2).f0) == 5)) = false := by simpa using c43
                                            have c43z : (!((rd_T36 t202 x8_2).f1).toList.isEmpty == (((rd_T36 t202 x8_2).f0) == 5)) = false := (ne_spell _ _).trans c43b0
                                            (try (have c43b1 : decide ((((rd_T36 t202 x8_2).f1).toList == ([] : List UInt8)) = (((rd_T36 t202 x8_2).f0) == 5)) = true := by simpa using c43))
                                            (try (have c43b2 : ((((rd_T36 t202 x8_2).f1).toList == ([] : List UInt8)) == (((rd_T36 t202 x8_2).f0) == 5)) = true := by simpa using c43))
                                            clear c43
                                            have H' := Aside0.mk H
                                            clear H
                                            have p216 : 0 ≤ (x8_2 : Int) := of_decide_eq_true (by first | (with_reducible assumption) | assumption)
                                            have q216 : x8_2 < (t202.length : Int) := of_decide_eq_true (by first | (with_reducible assumption) | assumption)
                                            obtain ⟨ad216, e216, hx216_0, hx216_1, hx216_2, hx216_3, hx216_4⟩ := at_T36 (Kd.R_reads' HO_3.out).2.2 x8_2 p216 q216
                                            cases e216
                                            replace p216 := eq_true p216
                                            replace q216 := eq_true q216
                                            have p217 : 0 ≤ (x8_2 : Int) := of_decide_eq_true (by first | (with_reducible assumption) | assumption)
                                            have q217 : x8_2 < (t202.length : Int) := of_decide_eq_true (by first | (with_reducible assumption) | assumption)
                                            obtain ⟨ad217, e217, hx217_0, hx217_1, hx217_2, hx217_3, hx217_4⟩ := at_T36 (Kd.R_reads' HO_3.out).2.2 x8_2 p217 q217
                                            obtain rfl : ad216 = ad217 := (by injection e217)
                                            replace p217 := eq_true p217
                                            replace q217 := eq_true q217
                                            have p218 : 0 ≤ (x8_2 : Int) := of_decide_eq_true (by first | (with_reducible assumption) | assumption)
                                            have q218 : x8_2 < (t202.length : Int) := of_decide_eq_true (by first | (with_reducible assumption) | assumption)
                                            obtain ⟨ad218, e218, hx218_0, hx218_1, hx218_2, hx218_3, hx218_4⟩ := at_T36 (Kd.R_reads' HO_3.out).2.2 x8_2 p218 q218
                                            obtain rfl : ad216 = ad218 := (by injection e218)
                                            replace p218 := eq_true p218
                                            replace q218 := eq_true q218
                                            have p219 : 0 ≤ (x8_2 : Int) := of_decide_eq_true (by first | (with_reducible assumption) | assumption)
                                            have q219 : x8_2 < (t202.length : Int) := of_decide_eq_true (by first | (with_reducible assumption) | assumption)
                                            obtain ⟨ad219, e219, hx219_0, hx219_1, hx219_2, hx219_3, hx219_4⟩ := at_T36 (Kd.R_reads' HO_3.out).2.2 x8_2 p219 q219
                                            obtain rfl : ad216 = ad219 := (by injection e219)
                                            replace p219 := eq_true p219
                                            replace q219 := eq_true q219
                                            go_wp2
                                            go_roundg kj13
                                            case measure => have := HJ2.out; have := HK2.out; have := HK3.out; have := HJ13.out; omega
                                            case rel => exact ⟨(x5_3), (x6_3), (wrap64 (x7_3 + (((rd_T36 t202 x8_2).f1).size : Int))), (wrap64 (x8_2 + 1)), (by first | rfl | (simp; done) | (simp [*]; done)), (by first | rfl | (simp; done) | (simp [*]; done)), (by first | rfl | (simp; done) | (simp [*]; done)), (by first | rfl | (simp; done) | (simp [*]; done)), H', ⟨by have := HJ2.out; have := HK2.out; have := HK3.out; have := HJ13.out; omega⟩, ⟨by (with_reducible repeat (first | apply Kd.R_alloc | apply Kd.R_drewN | apply Kd.R_drew)); exact HO_3.out⟩, ⟨by (with_reducible repeat (first | refine blk_drewN ?_ _ | refine blk_drew ?_ | refine blk_alloc ?_ _)); exact BK209.out⟩, ⟨by repeat (first | (with_reducible first | exact HB.out | apply below_alloc | apply pw_below_drewN | apply below_drew1 | refine below_set ?_ GE209.out) | exact HB.out)⟩⟩
                                        · rw [if_neg c42] at H
                                          have c42b0 : ((a0.extract (x7_3 : Int).toNat ((wrap64 (x7_3 + (((rd_T36 t202 x8_2).f1).size : Int))) : Int).toNat).toList == ((rd_T36 t202 x8_2).f1).toList) = false := beq_eq_false_iff_ne.mpr c42
                                          have c42b1 : ((a0.extract (x7_3 : Int).toNat ((wrap64 (x7_3 + (((rd_T36 t202 x8_2).f1).size : Int))) : Int).toNat).toList != ((rd_T36 t202 x8_2).f1).toList) = true := bne_iff_ne.mpr c42
                                          obtain rfl := Option.some.inj H
                                          have p216 : 0 ≤ (x8_2 : Int) := of_decide_eq_true (by first | (with_reducible assumption) | assumption)
                                          have q216 : x8_2 < (t202.length : Int) := of_decide_eq_true (by first | (with_reducible assumption) | assumption)
                                          obtain ⟨ad216, e216, hx216_0, hx216_1, hx216_2, hx216_3, hx216_4⟩ := at_T36 (Kd.R_reads' HO_3.out).2.2 x8_2 p216 q216
                                          cases e216
                                          replace p216 := eq_true p216
                                          replace q216 := eq_true q216
                                          have p217 : 0 ≤ (x8_2 : Int) := of_decide_eq_true (by first | (with_reducible assumption) | assumption)
                                          have q217 : x8_2 < (t202.length : Int) := of_decide_eq_true (by first | (with_reducible assumption) | assumption)
                                          obtain ⟨ad217, e217, hx217_0, hx217_1, hx217_2, hx217_3, hx217_4⟩ := at_T36 (Kd.R_reads' HO_3.out).2.2 x8_2 p217 q217
                                          obtain rfl : ad216 = ad217 := (by injection e217)
                                          replace p217 := eq_true p217
                                          replace q217 := eq_true q217
                                          have p218 : 0 ≤ (x8_2 : Int) := of_decide_eq_true (by first | (with_reducible assumption) | assumption)
                                          have q218 : x8_2 < (t202.length : Int) := of_decide_eq_true (by first | (with_reducible assumption) | assumption)
                                          obtain ⟨ad218, e218, hx218_0, hx218_1, hx218_2, hx218_3, hx218_4⟩ := at_T36 (Kd.R_reads' HO_3.out).2.2 x8_2 p218 q218
                                          obtain rfl : ad216 = ad218 := (by injection e218)
                                          replace p218 := eq_true p218
                                          replace q218 := eq_true q218
                                          go_wp2
                                          go_ret
                                          exact ⟨by first | rfl | (simp [errW_none, errW_some] <;> rfl) | (simp [*, errW_none, errW_some] <;> rfl), by repeat (first | (with_reducible first | exact HB.out | apply below_alloc | apply pw_below_drewN | apply below_drew1 | refine below_set ?_ GE209.out) | exact HB.out)⟩
                                      · rw [if_neg c41] at H
                                        exact absurd H (by simp)
                                    · rw [if_neg c40] at H
                                      exact absurd H (by simp)
                                  · rw [if_neg c39] at H
                                    exact absurd H (by simp)
                              · rw [if_neg c37] at H
                                have c37b0 : (((rd_T36 t202 x8_2).f4) == (wrap64 ((wrap64 (x7_3 - x6_3)) + 1))) = false := beq_eq_false_iff_ne.mpr c37
                                have c37b1 : (((rd_T36 t202 x8_2).f4) != (wrap64 ((wrap64 (x7_3 - x6_3)) + 1))) = true := bne_iff_ne.mpr c37
                                obtain rfl := Option.some.inj H
                                have p216 : 0 ≤ (x8_2 : Int) := of_decide_eq_true (by first | (with_reducible assumption) | assumption)
                                have q216 : x8_2 < (t202.length : Int) := of_decide_eq_true (by first | (with_reducible assumption) | assumption)
                                obtain ⟨ad216, e216, hx216_0, hx216_1, hx216_2, hx216_3, hx216_4⟩ := at_T36 (Kd.R_reads' HO_3.out).2.2 x8_2 p216 q216
                                cases e216
                                replace p216 := eq_true p216
                                replace q216 := eq_true q216
                                have p217 : 0 ≤ (x8_2 : Int) := of_decide_eq_true (by first | (with_reducible assumption) | assumption)
                                have q217 : x8_2 < (t202.length : Int) := of_decide_eq_true (by first | (with_reducible assumption) | assumption)
                                obtain ⟨ad217, e217, hx217_0, hx217_1, hx217_2, hx217_3, hx217_4⟩ := at_T36 (Kd.R_reads' HO_3.out).2.2 x8_2 p217 q217
                                obtain rfl : ad216 = ad217 := (by injection e217)
                                replace p217 := eq_true p217
                                replace q217 := eq_true q217
                                have p218 : 0 ≤ (x8_2 : Int) := of_decide_eq_true (by first | (with_reducible assumption) | assumption)
                                have q218 : x8_2 < (t202.length : Int) := of_decide_eq_true (by first | (with_reducible assumption) | assumption)
                                obtain ⟨ad218, e218, hx218_0, hx218_1, hx218_2, hx218_3, hx218_4⟩ := at_T36 (Kd.R_reads' HO_3.out).2.2 x8_2 p218 q218
                                obtain rfl : ad216 = ad218 := (by injection e218)
                                replace p218 := eq_true p218
                                replace q218 := eq_true q218
                                go_wp2
                                go_ret
                                exact ⟨by first | rfl | (simp [errW_none, errW_some] <;> rfl) | (simp [*, errW_none, errW_some] <;> rfl), by repeat (first | (with_reducible first | exact HB.out | apply below_alloc | apply pw_below_drewN | apply below_drew1 | refine below_set ?_ GE209.out) | exact HB.out)⟩
                            · rw [if_neg c36] at H
                              have c36b0 : (((rd_T36 t202 x8_2).f3) == x5_3) = false := beq_eq_false_iff_ne.mpr c36
                              have c36b1 : (((rd_T36 t202 x8_2).f3) != x5_3) = true := bne_iff_ne.mpr c36
                              obtain rfl := Option.some.inj H
                              have p216 : 0 ≤ (x8_2 : Int) := of_decide_eq_true (by first | (with_reducible assumption) | assumption)
                              have q216 : x8_2 < (t202.length : Int) := of_decide_eq_true (by first | (with_reducible assumption) | assumption)
                              obtain ⟨ad216, e216, hx216_0, hx216_1, hx216_2, hx216_3, hx216_4⟩ := at_T36 (Kd.R_reads' HO_3.out).2.2 x8_2 p216 q216
                              cases e216
                              replace p216 := eq_true p216
                              replace q216 := eq_true q216
                              have p217 : 0 ≤ (x8_2 : Int) := of_decide_eq_true (by first | (with_reducible assumption) | assumption)
                              have q217 : x8_2 < (t202.length : Int) := of_decide_eq_true (by first | (with_reducible assumption) | assumption)
                              obtain ⟨ad217, e217, hx217_0, hx217_1, hx217_2, hx217_3, hx217_4⟩ := at_T36 (Kd.R_reads' HO_3.out).2.2 x8_2 p217 q217
                              obtain rfl : ad216 = ad217 := (by injection e217)
                              replace p217 := eq_true p217
                              replace q217 := eq_true q217
                              go_wp2
                              go_ret
                              exact ⟨by first | rfl | (simp [errW_none, errW_some] <;> rfl) | (simp [*, errW_none, errW_some] <;> rfl), by repeat (first | (with_reducible first | exact HB.out | apply below_alloc | apply pw_below_drewN | apply below_drew1 | refine below_set ?_ GE209.out) | exact HB.out)⟩
                          · rw [if_neg c35] at H
                            exact absurd H (by simp)
                        · rw [if_neg c34] at H
                          exact absurd H (by simp)
            · rw [if_neg c12] at H
              have c12b0 : decide (x8_2 < (t202.length : Int)) = false := decide_eq_false c12
              clear c12
              by_cases c44 : x7_2 = (a0.size : Int)
              · rw [if_pos c44] at H
                have c44b0 : (x7_2 == (a0.size : Int)) = true := beq_iff_eq.mpr c44
                have c44b1 : (x7_2 != (a0.size : Int)) = false := bne_eq_false_iff_eq.mpr c44
                clear c44
                by_cases c45 : (t202.length : Int) > 0
                · rw [if_pos c45] at H
                  have c45b0 : decide (0 < (t202.length : Int)) = true := decide_eq_true c45
                  have c45b1 : decide (0 < t202.length) = true := decide_eq_true (by omega)
                  clear c45
                  obtain ⟨ji46, hji46⟩ : ∃ j_ : Int, (wrap64 ((t202.length : Int) - 1)) = j_ := ⟨_, rfl⟩
                  replace H : (if 0 ≤ (ji46) then (if (ji46) < (t202.length : Int) then (if ((rd_T36 t202 (ji46)).f0) = 5 then ((sortilegelaw05_awake.f k2).bind fun t212 => (some t212)) else (some false)) else (none)) else (none)) = some r := by first | (rw [hji46] at H; exact H) | (simp only [hji46] at H ⊢; exact H)
                  have hji46w : (IntKind.i64.wrap ((t202.length : Int) - 1)) = ji46 := (i64_w _).trans hji46
                  by_cases c47 : 0 ≤ (ji46)
                  · rw [if_pos c47] at H
                    have c47b0 : decide (0 ≤ (ji46)) = true := decide_eq_true c47
                    clear c47
                    by_cases c48 : (ji46) < (t202.length : Int)
                    · rw [if_pos c48] at H
                      have c48b0 : decide ((ji46) < (t202.length : Int)) = true := decide_eq_true c48
                      clear c48
                      by_cases c49 : ((rd_T36 t202 (ji46)).f0) = 5
                      · rw [if_pos c49] at H
                        have c49b0 : (((rd_T36 t202 (ji46)).f0) == 5) = true := beq_iff_eq.mpr c49
                        have c49b1 : (((rd_T36 t202 (ji46)).f0) != 5) = false := bne_eq_false_iff_eq.mpr c49
                        clear c49
                        replace H := Option.bind_eq_some_iff.mp H
                        obtain ⟨t212, A500, H⟩ := H
                        replace H : (some t212) = some r := H
                        have A50 := Aside0.mk A500
                        clear A500
                        obtain rfl := Option.some.inj H
                        obtain ⟨Ao51, co51, eo51⟩ := Kd.R_slice HO_3.out
                        subst eo51
                        have p211 : 0 ≤ ((ji46) : Int) := of_decide_eq_true (by first | (with_reducible assumption) | assumption)
                        have q211 : (ji46) < (t202.length : Int) := of_decide_eq_true (by first | (with_reducible assumption) | assumption)
                        obtain ⟨ad211, e211, hx211_0, hx211_1, hx211_2, hx211_3, hx211_4⟩ := at_T36 (Kd.R_reads' HO_3.out).2.2 (ji46) p211 q211
                        cases e211
                        replace p211 := eq_true p211
                        replace q211 := eq_true q211
                        go_wp2_with (first | (go_at_call 9; (with_reducible refine (sortilegelaw05_awake.calls k2  t212 _ ?side1 A50.out).mono ?_); (case side1 => first | (with_reducible exact hs_) | exact Sane.below hs_ (by repeat (first | (with_reducible first | exact HB.out | apply below_alloc | apply pw_below_drewN | apply below_drew1 | refine below_set ?_ GE209.out) | exact HB.out))); rintro e w52 ⟨rfl, hb⟩; have n0_ := Aside0.mk (Kd.R_below (by (with_reducible repeat (first | apply Kd.R_alloc | apply Kd.R_drewN | apply Kd.R_drew)); exact HO_3.out) hb); have n1_ := Aside0.mk (blk_below (g := gb209) (o := .cells #[.int .i64 t205, .string t206, .int .i64 t207, .int .i64 t208] 26 (0, 0)) (by (with_reducible repeat (first | refine blk_drewN ?_ _ | refine blk_drew ?_ | refine blk_alloc ?_ _)); exact BK209.out) hb); have n2_ := Aside0.mk (below_step (by repeat (first | (with_reducible first | exact HB.out | apply below_alloc | apply pw_below_drewN | apply below_drew1 | refine below_set ?_ GE209.out) | exact HB.out)) hb); clear HO_3; clear BK209; clear HB; have HO_3 := n0_; have BK209 := n1_; have HB := n2_; clear n0_ n1_ n2_; (try clear hb); (try clear hb2); (try clear hk); (try clear hi)))
                        go_ret
                        exact ⟨by first | rfl | (simp [errW_none, errW_some] <;> rfl) | (simp only [← hji46]; first | rfl | (simp [errW_none, errW_some] <;> rfl)) | (simp [*, errW_none, errW_some] <;> rfl), by repeat (first | (with_reducible first | exact HB.out | apply below_alloc | apply pw_below_drewN | apply below_drew1 | refine below_set ?_ GE209.out) | exact HB.out)⟩
                      · rw [if_neg c49] at H
                        have c49b0 : (((rd_T36 t202 (ji46)).f0) == 5) = false := beq_eq_false_iff_ne.mpr c49
                        have c49b1 : (((rd_T36 t202 (ji46)).f0) != 5) = true := bne_iff_ne.mpr c49
                        obtain rfl := Option.some.inj H
                        obtain ⟨Ao53, co53, eo53⟩ := Kd.R_slice HO_3.out
                        subst eo53
                        have p211 : 0 ≤ ((ji46) : Int) := of_decide_eq_true (by first | (with_reducible assumption) | assumption)
                        have q211 : (ji46) < (t202.length : Int) := of_decide_eq_true (by first | (with_reducible assumption) | assumption)
                        obtain ⟨ad211, e211, hx211_0, hx211_1, hx211_2, hx211_3, hx211_4⟩ := at_T36 (Kd.R_reads' HO_3.out).2.2 (ji46) p211 q211
                        cases e211
                        replace p211 := eq_true p211
                        replace q211 := eq_true q211
                        go_wp2
                        go_ret
                        exact ⟨by first | rfl | (simp [errW_none, errW_some] <;> rfl) | (simp only [← hji46]; first | rfl | (simp [errW_none, errW_some] <;> rfl)) | (simp [*, errW_none, errW_some] <;> rfl), by repeat (first | (with_reducible first | exact HB.out | apply below_alloc | apply pw_below_drewN | apply below_drew1 | refine below_set ?_ GE209.out) | exact HB.out)⟩
                    · rw [if_neg c48] at H
                      exact absurd H (by simp)
                  · rw [if_neg c47] at H
                    exact absurd H (by simp)
                · rw [if_neg c45] at H
                  have c45b0 : decide (0 < (t202.length : Int)) = false := decide_eq_false c45
                  have c45b1 : decide (0 < t202.length) = false := decide_eq_false (by omega)
                  clear c45
                  obtain rfl := Option.some.inj H
                  obtain ⟨Ao54, co54, eo54⟩ := Kd.R_slice HO_3.out
                  subst eo54
                  go_wp2
                  go_ret
                  exact ⟨by first | rfl | (simp [errW_none, errW_some] <;> rfl) | (simp [*, errW_none, errW_some] <;> rfl), by repeat (first | (with_reducible first | exact HB.out | apply below_alloc | apply pw_below_drewN | apply below_drew1 | refine below_set ?_ GE209.out) | exact HB.out)⟩
              · rw [if_neg c44] at H
                have c44b0 : (x7_2 == (a0.size : Int)) = false := beq_eq_false_iff_ne.mpr c44
                have c44b1 : (x7_2 != (a0.size : Int)) = true := bne_iff_ne.mpr c44
                obtain rfl := Option.some.inj H
                obtain ⟨Ao55, co55, eo55⟩ := Kd.R_slice HO_3.out
                subst eo55
                go_wp2
                go_ret
                exact ⟨by first | rfl | (simp [errW_none, errW_some] <;> rfl) | (simp [*, errW_none, errW_some] <;> rfl), by repeat (first | (with_reducible first | exact HB.out | apply below_alloc | apply pw_below_drewN | apply below_drew1 | refine below_set ?_ GE209.out) | exact HB.out)⟩

/-- THE ONE PURE STATEMENT of sortilegelaw05_LexerPlaces: yours. -/
def sortilegelaw05_LexerPlaces.Pure : Prop := ∀ (a0 : ByteArray), a0.size ≤ 140737488351232 → ∃ k, sortilegelaw05_LexerPlaces.f k a0 = some true
theorem sortilegelaw05_LexerPlaces.walk (P : sortilegelaw05_LexerPlaces.Pure) (a0 : ByteArray) (w : World) (w0 : a0.size ≤ 140737488351232) (hs_ : Sane w) :
    Calls Try.prog 7 #[.string a0] w fun e w' => e = .returned (.bool true) ∧ Below w.heap.size w w' := by
  obtain ⟨k, h⟩ := P a0 w0
  refine (sortilegelaw05_LexerPlaces.calls k a0 true w hs_ h).mono ?_
  rintro e w' ⟨rfl, hd⟩
  exact ⟨rfl, hd⟩

end Go.Proofs.Ytfcekcnghomiiaa.X
