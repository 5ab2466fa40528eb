/- What the pieces of the functions do, as functions of their data. Printed by pack3.py. -/
import Derived.Test.YtkpdofiflhjahaaDoorPv0
namespace Go.Proofs.YtkpdofiflhjahaaDoor.Ps
set_option maxHeartbeats 0
set_option maxRecDepth 100000
set_option linter.unusedVariables false
open Go Go.RowKit
noncomputable def e7 (Γ : SemL) (n1 : Nat) (x0 : Int) (x1 : Int) (r2 : List (List D)) (x3 : Int) (x4 : Int) (r5 : List (List D)) (x6 : Int) (x7 : Int) (r8 : List (List D)) : Option Out :=
  runF Γ shp (Sh.owns (shp 7)) sf7 n1 [V.agg [X.d (D.int IntKind.i64 x0), X.d (D.int IntKind.i64 x1), X.d (D.list 3 r2)], V.agg [X.d (D.int IntKind.i64 x3), X.d (D.int IntKind.i64 x4), X.d
  (D.list 3 r5)], V.agg [X.d (D.int IntKind.i64 x6), X.d (D.int IntKind.i64 x7), X.d (D.list 3 r8)]] []
noncomputable def q7_0 (Γ : SemL) (n1 : Nat) (x0 : Int) (x1 : Int) (r2 : List (List D)) (x3 : Int) (x4 : Int) (r5 : List (List D)) (x6 : Int) (x7 : Int) (r8 : List (List D)) : Option Out :=
  Jn Γ shp n1 j7_0 (St.mk [(3, V.one (X.ptr 0 0)), (4, V.one (X.ptr 1 0)), (5, V.one (X.ptr 2 0))] [(0, Blk.mk [Lf.int IntKind.i64, Lf.int IntKind.i64, Lf.lst 3] [X.d (D.int IntKind.i64 x0),
  X.d (D.int IntKind.i64 x1), X.d (D.list 3 r2)]), (1, Blk.mk [Lf.int IntKind.i64, Lf.int IntKind.i64, Lf.lst 3] [X.d (D.int IntKind.i64 x3), X.d (D.int IntKind.i64 x4), X.d (D.list 3 r5)]),
  (2, Blk.mk [Lf.int IntKind.i64, Lf.int IntKind.i64, Lf.lst 3] [X.d (D.int IntKind.i64 x6), X.d (D.int IntKind.i64 x7), X.d (D.list 3 r8)])] [] 3 0 0) (finK (Sh.owns (shp 7)) (SFunc.results
  sf7) 0)
noncomputable def q7_1 (Γ : SemL) (n1 : Nat) (x0 : Int) (x1 : Int) (x2 : Int) : Option Out := Jn Γ shp n1 j7_1 (St.mk [(7, V.one (X.d (D.int IntKind.i64 x0))), (8, V.one (X.d (D.int
  IntKind.i64 x1))), (9, V.one (X.d (D.int IntKind.i64 x2)))] [] [] 0 0 0) (finK (Sh.owns (shp 7)) (SFunc.results sf7) 0)
theorem e7_eq (Γ : SemL) (n1 : Nat) (x0 : Int) (x1 : Int) (r2 : List (List D)) (x3 : Int) (x4 : Int) (r5 : List (List D)) (x6 : Int) (x7 : Int) (r8 : List (List D)) : e7 Γ n1 x0 x1 r2 x3 x4
  r5 x6 x7 r8 = r_oB (Γ 23 [V.one (X.d (D.int IntKind.i64 2000)), V.one (X.d (D.list 3 [[D.int IntKind.i64 x0, D.int IntKind.i64 x1, D.list 3 r2], [D.int IntKind.i64 x3, D.int IntKind.i64 x4,
  D.list 3 r5], [D.int IntKind.i64 x6, D.int IntKind.i64 x7, D.list 3 r8]]))] []) [] fun c2_ => bif !c2_ then r_oB (Γ 13 [] []) [] fun c1_ => some (Out.mk true (V.one (X.d (D.bool c1_)))
  D.junk [] 0) else q7_0 Γ n1 x0 x1 r2 x3 x4 r5 x6 x7 r8 := (run_step ..).trans (by kernel_rfl)
theorem q7_0_eq (Γ : SemL) (n1 : Nat) (x0 : Int) (x1 : Int) (r2 : List (List D)) (x3 : Int) (x4 : Int) (r5 : List (List D)) (x6 : Int) (x7 : Int) (r8 : List (List D)) : q7_0 Γ n1 x0 x1 r2 x3
  x4 r5 x6 x7 r8 = r_oI (Γ 30 [V.agg [X.d (D.int IntKind.i64 x0), X.d (D.int IntKind.i64 x1), X.d (D.list 3 r2)], V.agg [X.d (D.int IntKind.i64 x3), X.d (D.int IntKind.i64 x4), X.d (D.list 3
  r5)]] []) [] fun i6_ => r_oI (Γ 30 [V.agg [X.d (D.int IntKind.i64 x3), X.d (D.int IntKind.i64 x4), X.d (D.list 3 r5)], V.agg [X.d (D.int IntKind.i64 x6), X.d (D.int IntKind.i64 x7), X.d
  (D.list 3 r8)]] []) [] fun i5_ => r_oI (Γ 30 [V.agg [X.d (D.int IntKind.i64 x0), X.d (D.int IntKind.i64 x1), X.d (D.list 3 r2)], V.agg [X.d (D.int IntKind.i64 x6), X.d (D.int IntKind.i64
  x7), X.d (D.list 3 r8)]] []) [] fun i4_ => r_oI (Γ 30 [V.agg [X.d (D.int IntKind.i64 x3), X.d (D.int IntKind.i64 x4), X.d (D.list 3 r5)], V.agg [X.d (D.int IntKind.i64 x0), X.d (D.int
  IntKind.i64 x1), X.d (D.list 3 r2)]] []) [] fun i3_ => bif i3_ != IntKind.wrap IntKind.i64 (0 - i6_) then some (Out.mk true (V.one (X.d (D.bool false))) D.junk [] 0) else r_oB (Γ 38 [V.agg
  [X.d (D.int IntKind.i64 x0), X.d (D.int IntKind.i64 x1), X.d (D.list 3 r2)], V.agg [X.d (D.int IntKind.i64 x3), X.d (D.int IntKind.i64 x4), X.d (D.list 3 r5)]] []) [] fun c2_ => bif ! (i6_
  == 0) == c2_ then some (Out.mk true (V.one (X.d (D.bool false))) D.junk [] 0) else r_oB (Γ 32 [V.agg [X.d (D.int IntKind.i64 x0), X.d (D.int IntKind.i64 x1), X.d (D.list 3 r2)], V.agg [X.d
  (D.int IntKind.i64 x3), X.d (D.int IntKind.i64 x4), X.d (D.list 3 r5)]] []) [] fun c1_ => bif !c1_ == (i6_ == 0) then some (Out.mk true (V.one (X.d (D.bool false))) D.junk [] 0) else q7_1 Γ
  n1 i6_ i5_ i4_ := (Jn_step ..).trans (by kernel_rfl)
theorem q7_1_eq (Γ : SemL) (n1 : Nat) (x0 : Int) (x1 : Int) (x2 : Int) : q7_1 Γ n1 x0 x1 x2 = bif decide (x0 ≤ 0) then bif decide (x1 ≤ 0) then bif !decide (x2 > 0) then bif decide (x0 < 0)
  then bif decide (x1 ≤ 0) then bif !decide (x2 ≥ 0) then r_oB (Γ 13 [] []) [] fun c1_ => some (Out.mk true (V.one (X.d (D.bool c1_))) D.junk [] 0) else some (Out.mk true (V.one (X.d (D.bool
  false))) D.junk [] 0) else r_oB (Γ 13 [] []) [] fun c2_ => some (Out.mk true (V.one (X.d (D.bool c2_))) D.junk [] 0) else r_oB (Γ 13 [] []) [] fun c3_ => some (Out.mk true (V.one (X.d
  (D.bool c3_))) D.junk [] 0) else some (Out.mk true (V.one (X.d (D.bool false))) D.junk [] 0) else bif decide (x0 < 0) then bif decide (x1 ≤ 0) then bif !decide (x2 ≥ 0) then r_oB (Γ 13 []
  []) [] fun c4_ => some (Out.mk true (V.one (X.d (D.bool c4_))) D.junk [] 0) else some (Out.mk true (V.one (X.d (D.bool false))) D.junk [] 0) else r_oB (Γ 13 [] []) [] fun c5_ => some
  (Out.mk true (V.one (X.d (D.bool c5_))) D.junk [] 0) else r_oB (Γ 13 [] []) [] fun c6_ => some (Out.mk true (V.one (X.d (D.bool c6_))) D.junk [] 0) else bif decide (x0 < 0) then bif decide
  (x1 ≤ 0) then bif !decide (x2 ≥ 0) then r_oB (Γ 13 [] []) [] fun c7_ => some (Out.mk true (V.one (X.d (D.bool c7_))) D.junk [] 0) else some (Out.mk true (V.one (X.d (D.bool false))) D.junk
  [] 0) else r_oB (Γ 13 [] []) [] fun c8_ => some (Out.mk true (V.one (X.d (D.bool c8_))) D.junk [] 0) else r_oB (Γ 13 [] []) [] fun c9_ => some (Out.mk true (V.one (X.d (D.bool c9_))) D.junk
  [] 0) := (Jn_step ..).trans (by kernel_rfl)
theorem call7 (k : Nat) (x0 : Int) (x1 : Int) (r2 : List (List D)) (x3 : Int) (x4 : Int) (r5 : List (List D)) (x6 : Int) (x7 : Int) (r8 : List (List D)) : Ak (k + 1) 7 [V.agg [X.d (D.int
  IntKind.i64 x0), X.d (D.int IntKind.i64 x1), X.d (D.list 3 r2)], V.agg [X.d (D.int IntKind.i64 x3), X.d (D.int IntKind.i64 x4), X.d (D.list 3 r5)], V.agg [X.d (D.int IntKind.i64 x6), X.d
  (D.int IntKind.i64 x7), X.d (D.list 3 r8)]] [] = e7 (Ak k) k x0 x1 r2 x3 x4 r5 x6 x7 r8 := call_step (by kernel_rfl) rfl
end Go.Proofs.YtkpdofiflhjahaaDoor.Ps
