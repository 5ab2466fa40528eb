/- What the pieces of the functions do, as functions of their data. Printed by pack3.py. -/
import Derived.Test.YtkpdofiflhjahaaDoorPv0
namespace Go.Proofs.YtkpdofiflhjahaaDoor.Ps
set_option maxHeartbeats 0
set_option maxRecDepth 100000
set_option linter.unusedVariables false
open Go Go.RowKit
noncomputable def e10 (Γ : SemL) (n1 : Nat) (x0 : Int) (r1 : List (List D)) (x2 : Int) (r3 : List (List D)) (x4 : Int) (x5 : Int) (r6 : List (List D)) : Option Out := runF Γ shp (Sh.owns (shp
  10)) sf10 n1 [V.agg [X.d (D.int IntKind.i64 x0), X.d (D.list 2 r1)], V.agg [X.d (D.int IntKind.i64 x2), X.d (D.list 2 r3)], V.agg [X.d (D.int IntKind.i64 x4), X.d (D.int IntKind.i64 x5),
  X.d (D.list 3 r6)]] []
noncomputable def q10_0 (Γ : SemL) (n1 : Nat) (x0 : Int) (r1 : List (List D)) (x2 : Int) (r3 : List (List D)) (x4 : Int) (x5 : Int) (r6 : List (List D)) : Option Out := Jn Γ shp n1 j10_0
  (St.mk [(3, V.one (X.ptr 0 0)), (4, V.one (X.ptr 1 0)), (5, V.one (X.ptr 2 0))] [(0, Blk.mk [Lf.int IntKind.i64, Lf.lst 2] [X.d (D.int IntKind.i64 x0), X.d (D.list 2 r1)]), (1, Blk.mk
  [Lf.int IntKind.i64, Lf.lst 2] [X.d (D.int IntKind.i64 x2), X.d (D.list 2 r3)]), (2, Blk.mk [Lf.int IntKind.i64, Lf.int IntKind.i64, Lf.lst 3] [X.d (D.int IntKind.i64 x4), X.d (D.int
  IntKind.i64 x5), X.d (D.list 3 r6)])] [] 3 0 0) (finK (Sh.owns (shp 10)) (SFunc.results sf10) 0)
noncomputable def q10_1 (Γ : SemL) (n1 : Nat) (b0 : Bool) (b1 : Bool) (x2 : Int) (r3 : List (List D)) (x4 : Int) (r5 : List (List D)) (x6 : Int) (x7 : Int) (r8 : List (List D)) : Option Out
  := Jn Γ shp n1 j10_1 (St.mk [(3, V.one (X.ptr 0 0)), (4, V.one (X.ptr 1 0)), (5, V.one (X.ptr 2 0)), (7, V.one (X.d (D.bool b0))), (8, V.one (X.d (D.bool b1)))] [(0, Blk.mk [Lf.int
  IntKind.i64, Lf.lst 2] [X.d (D.int IntKind.i64 x2), X.d (D.list 2 r3)]), (1, Blk.mk [Lf.int IntKind.i64, Lf.lst 2] [X.d (D.int IntKind.i64 x4), X.d (D.list 2 r5)]), (2, Blk.mk [Lf.int
  IntKind.i64, Lf.int IntKind.i64, Lf.lst 3] [X.d (D.int IntKind.i64 x6), X.d (D.int IntKind.i64 x7), X.d (D.list 3 r8)])] [] 3 0 0) (finK (Sh.owns (shp 10)) (SFunc.results sf10) 0)
theorem e10_eq (Γ : SemL) (n1 : Nat) (x0 : Int) (r1 : List (List D)) (x2 : Int) (r3 : List (List D)) (x4 : Int) (x5 : Int) (r6 : List (List D)) : e10 Γ n1 x0 r1 x2 r3 x4 x5 r6 = r_oB (Γ 12
  [V.one (X.d (D.int IntKind.i64 2000)), V.one (X.d (D.list 2 [[D.int IntKind.i64 x0, D.list 2 r1], [D.int IntKind.i64 x2, D.list 2 r3]]))] []) [] fun c4_ => bif !c4_ then r_oB (Γ 13 [] [])
  [] fun c1_ => some (Out.mk true (V.one (X.d (D.bool c1_))) D.junk [] 0) else r_oB (Γ 23 [V.one (X.d (D.int IntKind.i64 2000)), V.one (X.d (D.list 3 [[D.int IntKind.i64 x4, D.int IntKind.i64
  x5, D.list 3 r6]]))] []) [] fun c3_ => bif !c3_ then r_oB (Γ 13 [] []) [] fun c2_ => some (Out.mk true (V.one (X.d (D.bool c2_))) D.junk [] 0) else q10_0 Γ n1 x0 r1 x2 r3 x4 x5 r6 :=
  (run_step ..).trans (by kernel_rfl)
theorem q10_0_eq (Γ : SemL) (n1 : Nat) (x0 : Int) (r1 : List (List D)) (x2 : Int) (r3 : List (List D)) (x4 : Int) (x5 : Int) (r6 : List (List D)) : q10_0 Γ n1 x0 r1 x2 r3 x4 x5 r6 = r_oB (Γ
  24 [V.agg [X.d (D.int IntKind.i64 x0), X.d (D.list 2 r1)], V.agg [X.d (D.int IntKind.i64 x4), X.d (D.int IntKind.i64 x5), X.d (D.list 3 r6)]] []) [] fun c4_ => r_oB (Γ 24 [V.agg [X.d (D.int
  IntKind.i64 x2), X.d (D.list 2 r3)], V.agg [X.d (D.int IntKind.i64 x4), X.d (D.int IntKind.i64 x5), X.d (D.list 3 r6)]] []) [] fun c3_ => bif c4_ then r_oB (Γ 26 [V.agg [X.d (D.int
  IntKind.i64 x4), X.d (D.int IntKind.i64 x5), X.d (D.list 3 r6)]] []) [] fun c1_ => bif !c1_ then some (Out.mk true (V.one (X.d (D.bool false))) D.junk [] 0) else q10_1 Γ n1 c4_ c3_ x0 r1 x2
  r3 x4 x5 r6 else bif c3_ then r_oB (Γ 26 [V.agg [X.d (D.int IntKind.i64 x4), X.d (D.int IntKind.i64 x5), X.d (D.list 3 r6)]] []) [] fun c2_ => bif !c2_ then some (Out.mk true (V.one (X.d
  (D.bool false))) D.junk [] 0) else q10_1 Γ n1 c4_ c3_ x0 r1 x2 r3 x4 x5 r6 else q10_1 Γ n1 c4_ c3_ x0 r1 x2 r3 x4 x5 r6 := (Jn_step ..).trans (by kernel_rfl)
theorem q10_1_eq (Γ : SemL) (n1 : Nat) (b0 : Bool) (b1 : Bool) (x2 : Int) (r3 : List (List D)) (x4 : Int) (r5 : List (List D)) (x6 : Int) (x7 : Int) (r8 : List (List D)) : q10_1 Γ n1 b0 b1 x2
  r3 x4 r5 x6 x7 r8 = bif !b0 then r_oB (Γ 13 [] []) [] fun c1_ => some (Out.mk true (V.one (X.d (D.bool c1_))) D.junk [] 0) else bif !b1 then r_oB (Γ 13 [] []) [] fun c2_ => some (Out.mk
  true (V.one (X.d (D.bool c2_))) D.junk [] 0) else r_oB (Γ 39 [V.agg [X.d (D.int IntKind.i64 x6), X.d (D.int IntKind.i64 x7), X.d (D.list 3 r8)]] []) [] fun c6_ => bif c6_ then r_oB (Γ 13 []
  []) [] fun c3_ => some (Out.mk true (V.one (X.d (D.bool c3_))) D.junk [] 0) else r_oB (Γ 18 [V.agg [X.d (D.int IntKind.i64 x2), X.d (D.list 2 r3)], V.agg [X.d (D.int IntKind.i64 x4), X.d
  (D.list 2 r5)]] []) [] fun c5_ => bif c5_ then r_oB (Γ 13 [] []) [] fun c4_ => some (Out.mk true (V.one (X.d (D.bool c4_))) D.junk [] 0) else some (Out.mk true (V.one (X.d (D.bool false)))
  D.junk [] 0) := (Jn_step ..).trans (by kernel_rfl)
theorem call10 (k : Nat) (x0 : Int) (r1 : List (List D)) (x2 : Int) (r3 : List (List D)) (x4 : Int) (x5 : Int) (r6 : List (List D)) : Ak (k + 1) 10 [V.agg [X.d (D.int IntKind.i64 x0), X.d
  (D.list 2 r1)], V.agg [X.d (D.int IntKind.i64 x2), X.d (D.list 2 r3)], V.agg [X.d (D.int IntKind.i64 x4), X.d (D.int IntKind.i64 x5), X.d (D.list 3 r6)]] [] = e10 (Ak k) k x0 r1 x2 r3 x4 x5
  r6 := call_step (by kernel_rfl) rfl
end Go.Proofs.YtkpdofiflhjahaaDoor.Ps
