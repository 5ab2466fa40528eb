/- What the pieces of the functions do, as functions of their data. Printed by pack3.py. -/
import Derived.Test.YtkpdofiflhjahaaDoorPv0
namespace Go.Proofs.YtkpdofiflhjahaaDoor.Ps
set_option maxHeartbeats 0
set_option maxRecDepth 100000
set_option linter.unusedVariables false
open Go Go.RowKit
noncomputable def e5 (Γ : SemL) (n1 : Nat) (x0 : Int) (x1 : Int) (r2 : List (List D)) (x3 : Int) (x4 : Int) (r5 : List (List D)) : Option Out := runF Γ shp (Sh.owns (shp 5)) sf5 n1 [V.agg
  [X.d (D.int IntKind.i64 x0), X.d (D.int IntKind.i64 x1), X.d (D.list 3 r2)], V.agg [X.d (D.int IntKind.i64 x3), X.d (D.int IntKind.i64 x4), X.d (D.list 3 r5)]] []
noncomputable def q5_0 (Γ : SemL) (n1 : Nat) (x0 : Int) (x1 : Int) (r2 : List (List D)) (x3 : Int) (x4 : Int) (r5 : List (List D)) : Option Out := Jn Γ shp n1 j5_0 (St.mk [(2, V.one (X.ptr 0
  0)), (3, V.one (X.ptr 1 0))] [(0, Blk.mk [Lf.int IntKind.i64, Lf.int IntKind.i64, Lf.lst 3] [X.d (D.int IntKind.i64 x0), X.d (D.int IntKind.i64 x1), X.d (D.list 3 r2)]), (1, Blk.mk [Lf.int
  IntKind.i64, Lf.int IntKind.i64, Lf.lst 3] [X.d (D.int IntKind.i64 x3), X.d (D.int IntKind.i64 x4), X.d (D.list 3 r5)])] [] 2 0 0) (finK (Sh.owns (shp 5)) (SFunc.results sf5) 0)
theorem e5_eq (Γ : SemL) (n1 : Nat) (x0 : Int) (x1 : Int) (r2 : List (List D)) (x3 : Int) (x4 : Int) (r5 : List (List D)) : e5 Γ n1 x0 x1 r2 x3 x4 r5 = r_oB (Γ 23 [V.one (X.d (D.int
  IntKind.i64 2000)), V.one (X.d (D.list 3 [[D.int IntKind.i64 x0, D.int IntKind.i64 x1, D.list 3 r2], [D.int IntKind.i64 x3, D.int IntKind.i64 x4, D.list 3 r5]]))] []) [] fun c2_ => bif !c2_
  then r_oB (Γ 13 [] []) [] fun c1_ => some (Out.mk true (V.one (X.d (D.bool c1_))) D.junk [] 0) else q5_0 Γ n1 x0 x1 r2 x3 x4 r5 := (run_step ..).trans (by kernel_rfl)
theorem q5_0_eq (Γ : SemL) (n1 : Nat) (x0 : Int) (x1 : Int) (r2 : List (List D)) (x3 : Int) (x4 : Int) (r5 : List (List D)) : q5_0 Γ n1 x0 x1 r2 x3 x4 r5 = r_oI (Γ 30 [V.agg [X.d (D.int
  IntKind.i64 x0), X.d (D.int IntKind.i64 x1), X.d (D.list 3 r2)], V.agg [X.d (D.int IntKind.i64 x3), X.d (D.int IntKind.i64 x4), X.d (D.list 3 r5)]] []) [] fun i5_ => r_oI (Γ 31 [V.agg [X.d
  (D.int IntKind.i64 x0), X.d (D.int IntKind.i64 x1), X.d (D.list 3 r2)], V.agg [X.d (D.int IntKind.i64 x3), X.d (D.int IntKind.i64 x4), X.d (D.list 3 r5)]] []) [] fun i4_ => bif i5_ == i4_
  then r_oB (Γ 32 [V.agg [X.d (D.int IntKind.i64 x0), X.d (D.int IntKind.i64 x1), X.d (D.list 3 r2)], V.agg [X.d (D.int IntKind.i64 x3), X.d (D.int IntKind.i64 x4), X.d (D.list 3 r5)]] []) []
  fun c3_ => r_oB (Γ 33 [V.agg [X.d (D.int IntKind.i64 x0), X.d (D.int IntKind.i64 x1), X.d (D.list 3 r2)], V.agg [X.d (D.int IntKind.i64 x3), X.d (D.int IntKind.i64 x4), X.d (D.list 3 r5)]]
  []) [] fun c2_ => bif c3_ == c2_ then r_oB (Γ 13 [] []) [] fun c1_ => some (Out.mk true (V.one (X.d (D.bool c1_))) D.junk [] 0) else some (Out.mk true (V.one (X.d (D.bool false))) D.junk []
  0) else some (Out.mk true (V.one (X.d (D.bool false))) D.junk [] 0) := (Jn_step ..).trans (by kernel_rfl)
theorem call5 (k : Nat) (x0 : Int) (x1 : Int) (r2 : List (List D)) (x3 : Int) (x4 : Int) (r5 : List (List D)) : Ak (k + 1) 5 [V.agg [X.d (D.int IntKind.i64 x0), X.d (D.int IntKind.i64 x1),
  X.d (D.list 3 r2)], V.agg [X.d (D.int IntKind.i64 x3), X.d (D.int IntKind.i64 x4), X.d (D.list 3 r5)]] [] = e5 (Ak k) k x0 x1 r2 x3 x4 r5 := call_step (by kernel_rfl) rfl
end Go.Proofs.YtkpdofiflhjahaaDoor.Ps
