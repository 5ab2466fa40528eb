/- What the pieces of the functions do, as functions of their data. Printed by pack3.py. -/
import Derived.Test.YtkpdofiflhjahaaDoorPv0
namespace Go.Proofs.YtkpdofiflhjahaaDoor.Ps
set_option maxHeartbeats 0
set_option maxRecDepth 100000
set_option linter.unusedVariables false
open Go Go.RowKit
noncomputable def e6 (Γ : SemL) (n1 : Nat) (x0 : Int) (x1 : Int) (r2 : List (List D)) (x3 : Int) (r4 : List (List D)) (s5 : ByteArray) : Option Out := runF Γ shp (Sh.owns (shp 6)) sf6 n1
  [V.agg [X.d (D.int IntKind.i64 x0), X.d (D.int IntKind.i64 x1), X.d (D.list 3 r2)], V.agg [X.d (D.int IntKind.i64 x3), X.d (D.list 2 r4)], V.one (X.d (D.str s5))] []
noncomputable def q6_0 (Γ : SemL) (n1 : Nat) (s0 : ByteArray) (x1 : Int) (x2 : Int) (r3 : List (List D)) (x4 : Int) (r5 : List (List D)) : Option Out := Jn Γ shp n1 j6_0 (St.mk [(2, V.one
  (X.d (D.str s0))), (3, V.one (X.ptr 0 0)), (4, V.one (X.ptr 1 0))] [(0, Blk.mk [Lf.int IntKind.i64, Lf.int IntKind.i64, Lf.lst 3] [X.d (D.int IntKind.i64 x1), X.d (D.int IntKind.i64 x2),
  X.d (D.list 3 r3)]), (1, Blk.mk [Lf.int IntKind.i64, Lf.lst 2] [X.d (D.int IntKind.i64 x4), X.d (D.list 2 r5)])] [] 2 0 0) (finK (Sh.owns (shp 6)) (SFunc.results sf6) 0)
theorem e6_eq (Γ : SemL) (n1 : Nat) (x0 : Int) (x1 : Int) (r2 : List (List D)) (x3 : Int) (r4 : List (List D)) (s5 : ByteArray) : e6 Γ n1 x0 x1 r2 x3 r4 s5 = r_oB (Γ 23 [V.one (X.d (D.int
  IntKind.i64 2000)), V.one (X.d (D.list 3 [[D.int IntKind.i64 x0, D.int IntKind.i64 x1, D.list 3 r2]]))] []) [] fun c5_ => bif !c5_ then r_oB (Γ 13 [] []) [] fun c1_ => some (Out.mk true
  (V.one (X.d (D.bool c1_))) D.junk [] 0) else r_oB (Γ 12 [V.one (X.d (D.int IntKind.i64 2000)), V.one (X.d (D.list 2 [[D.int IntKind.i64 x3, D.list 2 r4]]))] []) [] fun c4_ => bif !c4_ then
  r_oB (Γ 13 [] []) [] fun c2_ => some (Out.mk true (V.one (X.d (D.bool c2_))) D.junk [] 0) else bif decide (Int.ofNat (ByteArray.size s5) > 2000) then r_oB (Γ 13 [] []) [] fun c3_ => some
  (Out.mk true (V.one (X.d (D.bool c3_))) D.junk [] 0) else q6_0 Γ n1 s5 x0 x1 r2 x3 r4 := (run_step ..).trans (by kernel_rfl)
theorem q6_0_eq (Γ : SemL) (n1 : Nat) (s0 : ByteArray) (x1 : Int) (x2 : Int) (r3 : List (List D)) (x4 : Int) (r5 : List (List D)) : q6_0 Γ n1 s0 x1 x2 r3 x4 r5 = r_t2a3IIL3oI (Γ 34 [V.agg
  [X.d (D.int IntKind.i64 x4), X.d (D.list 2 r5)], V.one (X.d (D.str s0))] []) [] fun i9_ i10_ w11_ i12_ => r_t2a3IIL3oI (Γ 35 [V.agg [X.d (D.int IntKind.i64 x4), X.d (D.list 2 r5)], V.one
  (X.d (D.str s0))] []) [] fun i5_ i6_ w7_ i8_ => r_oS (Γ 36 [V.agg [X.d (D.int IntKind.i64 x1), X.d (D.int IntKind.i64 x2), X.d (D.list 3 r3)]] []) [] fun u4_ => r_oS (Γ 37 [V.agg [X.d
  (D.int IntKind.i64 x1), X.d (D.int IntKind.i64 x2), X.d (D.list 3 r3)]] []) [] fun u3_ => bif beqL (Array.toList (ByteArray.data u4_)) (Array.toList (ByteArray.data u3_)) then r_oB (Γ 38
  [V.agg [X.d (D.int IntKind.i64 i9_), X.d (D.int IntKind.i64 i10_), X.d (D.list 3 w11_)], V.agg [X.d (D.int IntKind.i64 i5_), X.d (D.int IntKind.i64 i6_), X.d (D.list 3 w7_)]] []) [] fun c2_
  => bif c2_ then bif i12_ == i8_ then r_oB (Γ 13 [] []) [] fun c1_ => some (Out.mk true (V.one (X.d (D.bool c1_))) D.junk [] 0) else some (Out.mk true (V.one (X.d (D.bool false))) D.junk []
  0) else some (Out.mk true (V.one (X.d (D.bool false))) D.junk [] 0) else some (Out.mk true (V.one (X.d (D.bool false))) D.junk [] 0) := (Jn_step ..).trans (by kernel_rfl)
theorem call6 (k : Nat) (x0 : Int) (x1 : Int) (r2 : List (List D)) (x3 : Int) (r4 : List (List D)) (s5 : ByteArray) : Ak (k + 1) 6 [V.agg [X.d (D.int IntKind.i64 x0), X.d (D.int IntKind.i64
  x1), X.d (D.list 3 r2)], V.agg [X.d (D.int IntKind.i64 x3), X.d (D.list 2 r4)], V.one (X.d (D.str s5))] [] = e6 (Ak k) k x0 x1 r2 x3 r4 s5 := call_step (by kernel_rfl) rfl
end Go.Proofs.YtkpdofiflhjahaaDoor.Ps
