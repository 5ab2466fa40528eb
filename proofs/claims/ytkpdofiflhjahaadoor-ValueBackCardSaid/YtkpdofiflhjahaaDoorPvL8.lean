/- What the pieces of the functions do, as functions of their data. Printed by pack3.py. -/
import Derived.Test.YtkpdofiflhjahaaDoorPv0
namespace Go.Proofs.YtkpdofiflhjahaaDoor.Ps
set_option maxHeartbeats 0
set_option maxRecDepth 100000
set_option linter.unusedVariables false
open Go Go.RowKit
noncomputable def e8 (Γ : SemL) (n1 : Nat) (x0 : Int) (r1 : List (List D)) (x2 : Int) (x3 : Int) (r4 : List (List D)) : Option Out := runF Γ shp (Sh.owns (shp 8)) sf8 n1 [V.agg [X.d (D.int
  IntKind.i64 x0), X.d (D.list 2 r1)], V.agg [X.d (D.int IntKind.i64 x2), X.d (D.int IntKind.i64 x3), X.d (D.list 3 r4)]] []
noncomputable def q8_0 (Γ : SemL) (n1 : Nat) (x0 : Int) (r1 : List (List D)) (x2 : Int) (x3 : Int) (r4 : List (List D)) : Option Out := Jn Γ shp n1 j8_0 (St.mk [(2, V.one (X.ptr 0 0)), (3,
  V.one (X.ptr 1 0))] [(0, Blk.mk [Lf.int IntKind.i64, Lf.lst 2] [X.d (D.int IntKind.i64 x0), X.d (D.list 2 r1)]), (1, Blk.mk [Lf.int IntKind.i64, Lf.int IntKind.i64, Lf.lst 3] [X.d (D.int
  IntKind.i64 x2), X.d (D.int IntKind.i64 x3), X.d (D.list 3 r4)])] [] 2 0 0) (finK (Sh.owns (shp 8)) (SFunc.results sf8) 0)
noncomputable def q8_1 (Γ : SemL) (n1 : Nat) (x0 : Int) (r1 : List (List D)) (x2 : Int) (x3 : Int) (r4 : List (List D)) : Option Out := Jn Γ shp n1 j8_1 (St.mk [(2, V.one (X.ptr 0 0)), (3,
  V.one (X.ptr 1 0))] [(0, Blk.mk [Lf.int IntKind.i64, Lf.lst 2] [X.d (D.int IntKind.i64 x0), X.d (D.list 2 r1)]), (1, Blk.mk [Lf.int IntKind.i64, Lf.int IntKind.i64, Lf.lst 3] [X.d (D.int
  IntKind.i64 x2), X.d (D.int IntKind.i64 x3), X.d (D.list 3 r4)])] [] 2 0 0) (finK (Sh.owns (shp 8)) (SFunc.results sf8) 0)
noncomputable def q8_2 (Γ : SemL) (n1 : Nat) (x0 : Int) (x1 : Int) (r2 : List (List D)) (x3 : Int) (x4 : Int) (r5 : List (List D)) (x6 : Int) (x7 : Int) (r8 : List (List D)) : Option Out :=
  Jn Γ shp n1 j8_2 (St.mk [(2, V.one (X.ptr 0 0)), (3, V.one (X.ptr 1 0)), (7, V.one (X.ptr 2 0)), (8, V.one (X.d (D.int IntKind.i64 x0)))] [(0, Blk.mk [Lf.int IntKind.i64, Lf.lst 2] [X.d
  (D.int IntKind.i64 x1), X.d (D.list 2 r2)]), (1, Blk.mk [Lf.int IntKind.i64, Lf.int IntKind.i64, Lf.lst 3] [X.d (D.int IntKind.i64 x3), X.d (D.int IntKind.i64 x4), X.d (D.list 3 r5)]), (2,
  Blk.mk [Lf.int IntKind.i64, Lf.int IntKind.i64, Lf.lst 3] [X.d (D.int IntKind.i64 x6), X.d (D.int IntKind.i64 x7), X.d (D.list 3 r8)])] [] 3 0 0) (finK (Sh.owns (shp 8)) (SFunc.results sf8)
  0)
theorem e8_eq (Γ : SemL) (n1 : Nat) (x0 : Int) (r1 : List (List D)) (x2 : Int) (x3 : Int) (r4 : List (List D)) : e8 Γ n1 x0 r1 x2 x3 r4 = r_oB (Γ 12 [V.one (X.d (D.int IntKind.i64 2000)),
  V.one (X.d (D.list 2 [[D.int IntKind.i64 x0, D.list 2 r1]]))] []) [] fun c6_ => bif !c6_ then r_oB (Γ 13 [] []) [] fun c1_ => some (Out.mk true (V.one (X.d (D.bool c1_))) D.junk [] 0) else
  r_oB (Γ 23 [V.one (X.d (D.int IntKind.i64 2000)), V.one (X.d (D.list 3 [[D.int IntKind.i64 x2, D.int IntKind.i64 x3, D.list 3 r4]]))] []) [] fun c5_ => bif !c5_ then r_oB (Γ 13 [] []) []
  fun c2_ => some (Out.mk true (V.one (X.d (D.bool c2_))) D.junk [] 0) else r_oB (Γ 16 [V.agg [X.d (D.int IntKind.i64 x0), X.d (D.list 2 r1)]] []) [] fun c4_ => bif !c4_ then r_oB (Γ 13 []
  []) [] fun c3_ => some (Out.mk true (V.one (X.d (D.bool c3_))) D.junk [] 0) else q8_0 Γ n1 x0 r1 x2 x3 r4 := (run_step ..).trans (by kernel_rfl)
theorem q8_0_eq (Γ : SemL) (n1 : Nat) (x0 : Int) (r1 : List (List D)) (x2 : Int) (x3 : Int) (r4 : List (List D)) : q8_0 Γ n1 x0 r1 x2 x3 r4 = r_oS (Γ 20 [V.agg [X.d (D.int IntKind.i64 x0),
  X.d (D.list 2 r1)]] []) [] fun u5_ => r_t2a2IL2oI (Γ 14 [V.one (X.d (D.str u5_))] []) [] fun i2_ w3_ i4_ => bif i4_ != 0 then some (Out.mk true (V.one (X.d (D.bool false))) D.junk [] 0)
  else r_oB (Γ 22 [V.agg [X.d (D.int IntKind.i64 x0), X.d (D.list 2 r1)], V.agg [X.d (D.int IntKind.i64 i2_), X.d (D.list 2 w3_)]] []) [] fun c1_ => bif !c1_ then some (Out.mk true (V.one
  (X.d (D.bool false))) D.junk [] 0) else q8_1 Γ n1 x0 r1 x2 x3 r4 := (Jn_step ..).trans (by kernel_rfl)
theorem q8_1_eq (Γ : SemL) (n1 : Nat) (x0 : Int) (r1 : List (List D)) (x2 : Int) (x3 : Int) (r4 : List (List D)) : q8_1 Γ n1 x0 r1 x2 x3 r4 = r_oS (Γ 36 [V.agg [X.d (D.int IntKind.i64 x2),
  X.d (D.int IntKind.i64 x3), X.d (D.list 3 r4)]] []) [] fun u9_ => r_t2a3IIL3oI (Γ 34 [V.agg [X.d (D.int IntKind.i64 x0), X.d (D.list 2 r1)], V.one (X.d (D.str u9_))] []) [] fun i5_ i6_ w7_
  i8_ => r_oB (Γ 24 [V.agg [X.d (D.int IntKind.i64 x0), X.d (D.list 2 r1)], V.agg [X.d (D.int IntKind.i64 x2), X.d (D.int IntKind.i64 x3), X.d (D.list 3 r4)]] []) [] fun c4_ => bif c4_ then
  bif i8_ == 0 then r_oB (Γ 38 [V.agg [X.d (D.int IntKind.i64 i5_), X.d (D.int IntKind.i64 i6_), X.d (D.list 3 w7_)], V.agg [X.d (D.int IntKind.i64 x2), X.d (D.int IntKind.i64 x3), X.d
  (D.list 3 r4)]] []) [] fun c3_ => bif c3_ then r_oB (Γ 26 [V.agg [X.d (D.int IntKind.i64 x2), X.d (D.int IntKind.i64 x3), X.d (D.list 3 r4)]] []) [] fun c2_ => bif c2_ then r_oB (Γ 13 []
  []) [] fun c1_ => some (Out.mk true (V.one (X.d (D.bool c1_))) D.junk [] 0) else some (Out.mk true (V.one (X.d (D.bool false))) D.junk [] 0) else some (Out.mk true (V.one (X.d (D.bool
  false))) D.junk [] 0) else some (Out.mk true (V.one (X.d (D.bool false))) D.junk [] 0) else q8_2 Γ n1 i8_ x0 r1 x2 x3 r4 i5_ i6_ w7_ := (Jn_step ..).trans (by kernel_rfl)
theorem q8_2_eq (Γ : SemL) (n1 : Nat) (x0 : Int) (x1 : Int) (r2 : List (List D)) (x3 : Int) (x4 : Int) (r5 : List (List D)) (x6 : Int) (x7 : Int) (r8 : List (List D)) : q8_2 Γ n1 x0 x1 r2 x3
  x4 r5 x6 x7 r8 = bif x0 != 0 then r_oB (Γ 13 [] []) [] fun c1_ => some (Out.mk true (V.one (X.d (D.bool c1_))) D.junk [] 0) else r_oB (Γ 24 [V.agg [X.d (D.int IntKind.i64 x1), X.d (D.list 2
  r2)], V.agg [X.d (D.int IntKind.i64 x6), X.d (D.int IntKind.i64 x7), X.d (D.list 3 r8)]] []) [] fun c5_ => bif c5_ then r_oS (Γ 36 [V.agg [X.d (D.int IntKind.i64 x6), X.d (D.int IntKind.i64
  x7), X.d (D.list 3 r8)]] []) [] fun u4_ => r_oS (Γ 36 [V.agg [X.d (D.int IntKind.i64 x3), X.d (D.int IntKind.i64 x4), X.d (D.list 3 r5)]] []) [] fun u3_ => bif beqL (Array.toList
  (ByteArray.data u4_)) (Array.toList (ByteArray.data u3_)) then r_oB (Γ 13 [] []) [] fun c2_ => some (Out.mk true (V.one (X.d (D.bool c2_))) D.junk [] 0) else some (Out.mk true (V.one (X.d
  (D.bool false))) D.junk [] 0) else some (Out.mk true (V.one (X.d (D.bool false))) D.junk [] 0) := (Jn_step ..).trans (by kernel_rfl)
theorem call8 (k : Nat) (x0 : Int) (r1 : List (List D)) (x2 : Int) (x3 : Int) (r4 : List (List D)) : Ak (k + 1) 8 [V.agg [X.d (D.int IntKind.i64 x0), X.d (D.list 2 r1)], V.agg [X.d (D.int
  IntKind.i64 x2), X.d (D.int IntKind.i64 x3), X.d (D.list 3 r4)]] [] = e8 (Ak k) k x0 r1 x2 x3 r4 := call_step (by kernel_rfl) rfl
end Go.Proofs.YtkpdofiflhjahaaDoor.Ps
