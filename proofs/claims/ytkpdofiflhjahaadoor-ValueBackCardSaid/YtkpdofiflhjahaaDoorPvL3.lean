/- What the pieces of the functions do, as functions of their data. Printed by pack3.py. -/
import Derived.Test.YtkpdofiflhjahaaDoorPv0
namespace Go.Proofs.YtkpdofiflhjahaaDoor.Ps
set_option maxHeartbeats 0
set_option maxRecDepth 100000
set_option linter.unusedVariables false
open Go Go.RowKit
noncomputable def e3 (Γ : SemL) (n1 : Nat) (x0 : Int) (r1 : List (List D)) (x2 : Int) (r3 : List (List D)) (s4 : ByteArray) : Option Out := runF Γ shp (Sh.owns (shp 3)) sf3 n1 [V.agg [X.d
  (D.int IntKind.i64 x0), X.d (D.list 2 r1)], V.agg [X.d (D.int IntKind.i64 x2), X.d (D.list 2 r3)], V.one (X.d (D.str s4))] []
noncomputable def q3_0 (Γ : SemL) (n1 : Nat) (s0 : ByteArray) (x1 : Int) (r2 : List (List D)) (x3 : Int) (r4 : List (List D)) : Option Out := Jn Γ shp n1 j3_0 (St.mk [(2, V.one (X.d (D.str
  s0))), (3, V.one (X.ptr 0 0)), (4, V.one (X.ptr 1 0))] [(0, Blk.mk [Lf.int IntKind.i64, Lf.lst 2] [X.d (D.int IntKind.i64 x1), X.d (D.list 2 r2)]), (1, Blk.mk [Lf.int IntKind.i64, Lf.lst 2]
  [X.d (D.int IntKind.i64 x3), X.d (D.list 2 r4)])] [] 2 0 0) (finK (Sh.owns (shp 3)) (SFunc.results sf3) 0)
theorem e3_eq (Γ : SemL) (n1 : Nat) (x0 : Int) (r1 : List (List D)) (x2 : Int) (r3 : List (List D)) (s4 : ByteArray) : e3 Γ n1 x0 r1 x2 r3 s4 = r_oB (Γ 12 [V.one (X.d (D.int IntKind.i64
  2000)), V.one (X.d (D.list 2 [[D.int IntKind.i64 x0, D.list 2 r1], [D.int IntKind.i64 x2, D.list 2 r3]]))] []) [] fun c3_ => bif !c3_ then r_oB (Γ 13 [] []) [] fun c1_ => some (Out.mk true
  (V.one (X.d (D.bool c1_))) D.junk [] 0) else bif decide (Int.ofNat (ByteArray.size s4) > 2000) then r_oB (Γ 13 [] []) [] fun c2_ => some (Out.mk true (V.one (X.d (D.bool c2_))) D.junk [] 0)
  else q3_0 Γ n1 s4 x0 r1 x2 r3 := (run_step ..).trans (by kernel_rfl)
theorem q3_0_eq (Γ : SemL) (n1 : Nat) (s0 : ByteArray) (x1 : Int) (r2 : List (List D)) (x3 : Int) (r4 : List (List D)) : q3_0 Γ n1 s0 x1 r2 x3 r4 = r_t2a2IL2oI (Γ 14 [V.one (X.d (D.str s0))]
  []) [] fun i12_ w13_ i14_ => r_t2a2IL2oI (Γ 15 [V.one (X.d (D.str s0))] []) [] fun i9_ w10_ i11_ => r_oB (Γ 16 [V.agg [X.d (D.int IntKind.i64 x1), X.d (D.list 2 r2)]] []) [] fun c8_ => r_oB
  (Γ 17 [V.agg [X.d (D.int IntKind.i64 x1), X.d (D.list 2 r2)]] []) [] fun c7_ => bif c8_ == c7_ then r_oB (Γ 18 [V.agg [X.d (D.int IntKind.i64 x1), X.d (D.list 2 r2)], V.agg [X.d (D.int
  IntKind.i64 x3), X.d (D.list 2 r4)]] []) [] fun c6_ => r_oB (Γ 19 [V.agg [X.d (D.int IntKind.i64 x1), X.d (D.list 2 r2)], V.agg [X.d (D.int IntKind.i64 x3), X.d (D.list 2 r4)]] []) [] fun
  c5_ => bif c6_ == c5_ then r_oS (Γ 20 [V.agg [X.d (D.int IntKind.i64 x1), X.d (D.list 2 r2)]] []) [] fun u4_ => r_oS (Γ 21 [V.agg [X.d (D.int IntKind.i64 x1), X.d (D.list 2 r2)]] []) [] fun
  u3_ => bif beqL (Array.toList (ByteArray.data u4_)) (Array.toList (ByteArray.data u3_)) then r_oB (Γ 22 [V.agg [X.d (D.int IntKind.i64 i12_), X.d (D.list 2 w13_)], V.agg [X.d (D.int
  IntKind.i64 i9_), X.d (D.list 2 w10_)]] []) [] fun c2_ => bif c2_ then bif i14_ == i11_ then r_oB (Γ 13 [] []) [] fun c1_ => some (Out.mk true (V.one (X.d (D.bool c1_))) D.junk [] 0) else
  some (Out.mk true (V.one (X.d (D.bool false))) D.junk [] 0) else some (Out.mk true (V.one (X.d (D.bool false))) D.junk [] 0) else some (Out.mk true (V.one (X.d (D.bool false))) D.junk [] 0)
  else some (Out.mk true (V.one (X.d (D.bool false))) D.junk [] 0) else some (Out.mk true (V.one (X.d (D.bool false))) D.junk [] 0) := (Jn_step ..).trans (by kernel_rfl)
theorem call3 (k : Nat) (x0 : Int) (r1 : List (List D)) (x2 : Int) (r3 : List (List D)) (s4 : ByteArray) : Ak (k + 1) 3 [V.agg [X.d (D.int IntKind.i64 x0), X.d (D.list 2 r1)], V.agg [X.d
  (D.int IntKind.i64 x2), X.d (D.list 2 r3)], V.one (X.d (D.str s4))] [] = e3 (Ak k) k x0 r1 x2 r3 s4 := call_step (by kernel_rfl) rfl
end Go.Proofs.YtkpdofiflhjahaaDoor.Ps
