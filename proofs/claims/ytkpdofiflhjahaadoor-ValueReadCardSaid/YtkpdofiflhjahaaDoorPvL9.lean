/- What the pieces of the functions do, as functions of their data. Printed by pack3.py. -/
import Derived.Test.YtkpdofiflhjahaaDoorPv0
namespace Go.Proofs.YtkpdofiflhjahaaDoor.Ps
set_option maxHeartbeats 0
set_option maxRecDepth 100000
set_option linter.unusedVariables false
open Go Go.RowKit
noncomputable def e9 (Γ : SemL) (n1 : Nat) (x0 : Int) (r1 : List (List D)) (s2 : ByteArray) : Option Out := runF Γ shp (Sh.owns (shp 9)) sf9 n1 [V.agg [X.d (D.int IntKind.i64 x0), X.d (D.list
  2 r1)], V.one (X.d (D.str s2))] []
noncomputable def q9_0 (Γ : SemL) (n1 : Nat) (s0 : ByteArray) (x1 : Int) (r2 : List (List D)) : Option Out := Jn Γ shp n1 j9_0 (St.mk [(1, V.one (X.d (D.str s0))), (2, V.one (X.ptr 0 0))]
  [(0, Blk.mk [Lf.int IntKind.i64, Lf.lst 2] [X.d (D.int IntKind.i64 x1), X.d (D.list 2 r2)])] [] 1 0 0) (finK (Sh.owns (shp 9)) (SFunc.results sf9) 0)
noncomputable def q9_1 (Γ : SemL) (n1 : Nat) (s0 : ByteArray) (x1 : Int) (x2 : Int) (x3 : Int) (r4 : List (List D)) (x5 : Int) (x6 : Int) (r7 : List (List D)) (x8 : Int) (r9 : List (List D))
  : Option Out := Jn Γ shp n1 j9_1 (St.mk [(1, V.one (X.d (D.str s0))), (2, V.one (X.ptr 0 0)), (5, V.one (X.ptr 1 0)), (6, V.one (X.d (D.int IntKind.i64 x1))), (7, V.one (X.ptr 2 0)), (8,
  V.one (X.d (D.int IntKind.i64 x2)))] [(0, Blk.mk [Lf.int IntKind.i64, Lf.lst 2] [X.d (D.int IntKind.i64 x3), X.d (D.list 2 r4)]), (1, Blk.mk [Lf.int IntKind.i64, Lf.int IntKind.i64, Lf.lst
  3] [X.d (D.int IntKind.i64 x5), X.d (D.int IntKind.i64 x6), X.d (D.list 3 r7)]), (2, Blk.mk [Lf.int IntKind.i64, Lf.lst 2] [X.d (D.int IntKind.i64 x8), X.d (D.list 2 r9)])] [] 3 0 0) (finK
  (Sh.owns (shp 9)) (SFunc.results sf9) 0)
theorem e9_eq (Γ : SemL) (n1 : Nat) (x0 : Int) (r1 : List (List D)) (s2 : ByteArray) : e9 Γ n1 x0 r1 s2 = r_oB (Γ 12 [V.one (X.d (D.int IntKind.i64 2000)), V.one (X.d (D.list 2 [[D.int
  IntKind.i64 x0, D.list 2 r1]]))] []) [] fun c3_ => bif !c3_ then r_oB (Γ 13 [] []) [] fun c1_ => some (Out.mk true (V.one (X.d (D.bool c1_))) D.junk [] 0) else bif decide (Int.ofNat
  (ByteArray.size s2) > 2000) then r_oB (Γ 13 [] []) [] fun c2_ => some (Out.mk true (V.one (X.d (D.bool c2_))) D.junk [] 0) else q9_0 Γ n1 s2 x0 r1 := (run_step ..).trans (by kernel_rfl)
theorem q9_0_eq (Γ : SemL) (n1 : Nat) (s0 : ByteArray) (x1 : Int) (r2 : List (List D)) : q9_0 Γ n1 s0 x1 r2 = r_t2a3IIL3oI (Γ 34 [V.agg [X.d (D.int IntKind.i64 x1), X.d (D.list 2 r2)], V.one
  (X.d (D.str s0))] []) [] fun i7_ i8_ w9_ i10_ => r_t2a2IL2oI (Γ 14 [V.one (X.d (D.str s0))] []) [] fun i4_ w5_ i6_ => bif i10_ != 0 then r_oB (Γ 38 [V.agg [X.d (D.int IntKind.i64 i7_), X.d
  (D.int IntKind.i64 i8_), X.d (D.list 3 w9_)], V.agg [X.d (D.int IntKind.i64 0), X.d (D.int IntKind.i64 0), X.nilL 3]] []) [] fun c2_ => bif !c2_ then some (Out.mk true (V.one (X.d (D.bool
  false))) D.junk [] 0) else bif i6_ != 0 then r_oB (Γ 22 [V.agg [X.d (D.int IntKind.i64 i4_), X.d (D.list 2 w5_)], V.agg [X.d (D.int IntKind.i64 0), X.nilL 2]] []) [] fun c1_ => bif !c1_
  then some (Out.mk true (V.one (X.d (D.bool false))) D.junk [] 0) else q9_1 Γ n1 s0 i10_ i6_ x1 r2 i7_ i8_ w9_ i4_ w5_ else q9_1 Γ n1 s0 i10_ i6_ x1 r2 i7_ i8_ w9_ i4_ w5_ else bif i6_ != 0
  then r_oB (Γ 22 [V.agg [X.d (D.int IntKind.i64 i4_), X.d (D.list 2 w5_)], V.agg [X.d (D.int IntKind.i64 0), X.nilL 2]] []) [] fun c3_ => bif !c3_ then some (Out.mk true (V.one (X.d (D.bool
  false))) D.junk [] 0) else q9_1 Γ n1 s0 i10_ i6_ x1 r2 i7_ i8_ w9_ i4_ w5_ else q9_1 Γ n1 s0 i10_ i6_ x1 r2 i7_ i8_ w9_ i4_ w5_ := (Jn_step ..).trans (by kernel_rfl)
theorem q9_1_eq (Γ : SemL) (n1 : Nat) (s0 : ByteArray) (x1 : Int) (x2 : Int) (x3 : Int) (r4 : List (List D)) (x5 : Int) (x6 : Int) (r7 : List (List D)) (x8 : Int) (r9 : List (List D)) : q9_1
  Γ n1 s0 x1 x2 x3 r4 x5 x6 r7 x8 r9 = bif x1 != 0 then bif x2 != 0 then r_oB (Γ 13 [] []) [] fun c1_ => some (Out.mk true (V.one (X.d (D.bool c1_))) D.junk [] 0) else r_oS (Γ 20 [V.agg [X.d
  (D.int IntKind.i64 x8), X.d (D.list 2 r9)]] []) [] fun u4_ => bif beqL (Array.toList (ByteArray.data u4_)) (Array.toList (ByteArray.data s0)) then r_oB (Γ 16 [V.agg [X.d (D.int IntKind.i64
  x8), X.d (D.list 2 r9)]] []) [] fun c3_ => bif c3_ then r_oB (Γ 13 [] []) [] fun c2_ => some (Out.mk true (V.one (X.d (D.bool c2_))) D.junk [] 0) else some (Out.mk true (V.one (X.d (D.bool
  false))) D.junk [] 0) else some (Out.mk true (V.one (X.d (D.bool false))) D.junk [] 0) else r_oS (Γ 36 [V.agg [X.d (D.int IntKind.i64 x5), X.d (D.int IntKind.i64 x6), X.d (D.list 3 r7)]]
  []) [] fun u10_ => bif beqL (Array.toList (ByteArray.data u10_)) (Array.toList (ByteArray.data s0)) then r_oB (Γ 24 [V.agg [X.d (D.int IntKind.i64 x3), X.d (D.list 2 r4)], V.agg [X.d (D.int
  IntKind.i64 x5), X.d (D.int IntKind.i64 x6), X.d (D.list 3 r7)]] []) [] fun c9_ => bif c9_ then bif x2 != 0 then r_oB (Γ 13 [] []) [] fun c5_ => some (Out.mk true (V.one (X.d (D.bool c5_)))
  D.junk [] 0) else r_oS (Γ 20 [V.agg [X.d (D.int IntKind.i64 x8), X.d (D.list 2 r9)]] []) [] fun u8_ => bif beqL (Array.toList (ByteArray.data u8_)) (Array.toList (ByteArray.data s0)) then
  r_oB (Γ 16 [V.agg [X.d (D.int IntKind.i64 x8), X.d (D.list 2 r9)]] []) [] fun c7_ => bif c7_ then r_oB (Γ 13 [] []) [] fun c6_ => some (Out.mk true (V.one (X.d (D.bool c6_))) D.junk [] 0)
  else some (Out.mk true (V.one (X.d (D.bool false))) D.junk [] 0) else some (Out.mk true (V.one (X.d (D.bool false))) D.junk [] 0) else some (Out.mk true (V.one (X.d (D.bool false))) D.junk
  [] 0) else some (Out.mk true (V.one (X.d (D.bool false))) D.junk [] 0) := (Jn_step ..).trans (by kernel_rfl)
theorem call9 (k : Nat) (x0 : Int) (r1 : List (List D)) (s2 : ByteArray) : Ak (k + 1) 9 [V.agg [X.d (D.int IntKind.i64 x0), X.d (D.list 2 r1)], V.one (X.d (D.str s2))] [] = e9 (Ak k) k x0 r1
  s2 := call_step (by kernel_rfl) rfl
end Go.Proofs.YtkpdofiflhjahaaDoor.Ps
