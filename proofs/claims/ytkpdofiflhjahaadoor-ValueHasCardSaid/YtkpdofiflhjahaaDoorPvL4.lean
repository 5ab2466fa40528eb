/- What the pieces of the functions do, as functions of their data. Printed by pack3.py. -/
import Derived.Test.YtkpdofiflhjahaaDoorPv0
namespace Go.Proofs.YtkpdofiflhjahaaDoor.Ps
set_option maxHeartbeats 0
set_option maxRecDepth 100000
set_option linter.unusedVariables false
open Go Go.RowKit
noncomputable def e4 (Γ : SemL) (n1 : Nat) (x0 : Int) (r1 : List (List D)) (x2 : Int) (x3 : Int) (r4 : List (List D)) : Option Out := runF Γ shp (Sh.owns (shp 4)) sf4 n1 [V.agg [X.d (D.int
  IntKind.i64 x0), X.d (D.list 2 r1)], V.agg [X.d (D.int IntKind.i64 x2), X.d (D.int IntKind.i64 x3), X.d (D.list 3 r4)]] []
noncomputable def q4_0 (Γ : SemL) (n1 : Nat) (x0 : Int) (r1 : List (List D)) (x2 : Int) (x3 : Int) (r4 : List (List D)) : Option Out := Jn Γ shp n1 j4_0 (St.mk [(2, V.one (X.ptr 0 0)), (3,
  V.one (X.ptr 1 0))] [(0, Blk.mk [Lf.int IntKind.i64, Lf.lst 2] [X.d (D.int IntKind.i64 x0), X.d (D.list 2 r1)]), (1, Blk.mk [Lf.int IntKind.i64, Lf.int IntKind.i64, Lf.lst 3] [X.d (D.int
  IntKind.i64 x2), X.d (D.int IntKind.i64 x3), X.d (D.list 3 r4)])] [] 2 0 0) (finK (Sh.owns (shp 4)) (SFunc.results sf4) 0)
theorem e4_eq (Γ : SemL) (n1 : Nat) (x0 : Int) (r1 : List (List D)) (x2 : Int) (x3 : Int) (r4 : List (List D)) : e4 Γ n1 x0 r1 x2 x3 r4 = r_oB (Γ 12 [V.one (X.d (D.int IntKind.i64 2000)),
  V.one (X.d (D.list 2 [[D.int IntKind.i64 x0, D.list 2 r1]]))] []) [] fun c4_ => bif !c4_ then r_oB (Γ 13 [] []) [] fun c1_ => some (Out.mk true (V.one (X.d (D.bool c1_))) D.junk [] 0) else
  r_oB (Γ 23 [V.one (X.d (D.int IntKind.i64 2000)), V.one (X.d (D.list 3 [[D.int IntKind.i64 x2, D.int IntKind.i64 x3, D.list 3 r4]]))] []) [] fun c3_ => bif !c3_ then r_oB (Γ 13 [] []) []
  fun c2_ => some (Out.mk true (V.one (X.d (D.bool c2_))) D.junk [] 0) else q4_0 Γ n1 x0 r1 x2 x3 r4 := (run_step ..).trans (by kernel_rfl)
theorem q4_0_eq (Γ : SemL) (n1 : Nat) (x0 : Int) (r1 : List (List D)) (x2 : Int) (x3 : Int) (r4 : List (List D)) : q4_0 Γ n1 x0 r1 x2 x3 r4 = r_oB (Γ 24 [V.agg [X.d (D.int IntKind.i64 x0),
  X.d (D.list 2 r1)], V.agg [X.d (D.int IntKind.i64 x2), X.d (D.int IntKind.i64 x3), X.d (D.list 3 r4)]] []) [] fun c7_ => r_oB (Γ 25 [V.agg [X.d (D.int IntKind.i64 x0), X.d (D.list 2 r1)],
  V.agg [X.d (D.int IntKind.i64 x2), X.d (D.int IntKind.i64 x3), X.d (D.list 3 r4)]] []) [] fun c6_ => bif c7_ == c6_ then r_oB (Γ 26 [V.agg [X.d (D.int IntKind.i64 x2), X.d (D.int
  IntKind.i64 x3), X.d (D.list 3 r4)]] []) [] fun c5_ => r_oB (Γ 27 [V.agg [X.d (D.int IntKind.i64 x2), X.d (D.int IntKind.i64 x3), X.d (D.list 3 r4)]] []) [] fun c4_ => bif c5_ == c4_ then
  r_oI (Γ 28 [V.agg [X.d (D.int IntKind.i64 x2), X.d (D.int IntKind.i64 x3), X.d (D.list 3 r4)]] []) [] fun i3_ => r_oI (Γ 29 [V.agg [X.d (D.int IntKind.i64 x2), X.d (D.int IntKind.i64 x3),
  X.d (D.list 3 r4)]] []) [] fun i2_ => bif i3_ == i2_ then r_oB (Γ 13 [] []) [] fun c1_ => some (Out.mk true (V.one (X.d (D.bool c1_))) D.junk [] 0) else some (Out.mk true (V.one (X.d
  (D.bool false))) D.junk [] 0) else some (Out.mk true (V.one (X.d (D.bool false))) D.junk [] 0) else some (Out.mk true (V.one (X.d (D.bool false))) D.junk [] 0) := (Jn_step ..).trans (by
  kernel_rfl)
theorem call4 (k : Nat) (x0 : Int) (r1 : List (List D)) (x2 : Int) (x3 : Int) (r4 : List (List D)) : Ak (k + 1) 4 [V.agg [X.d (D.int IntKind.i64 x0), X.d (D.list 2 r1)], V.agg [X.d (D.int
  IntKind.i64 x2), X.d (D.int IntKind.i64 x3), X.d (D.list 3 r4)]] [] = e4 (Ak k) k x0 r1 x2 x3 r4 := call_step (by kernel_rfl) rfl
end Go.Proofs.YtkpdofiflhjahaaDoor.Ps
