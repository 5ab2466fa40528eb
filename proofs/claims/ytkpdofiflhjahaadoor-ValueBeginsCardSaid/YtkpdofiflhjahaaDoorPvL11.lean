/- What the pieces of the functions do, as functions of their data. Printed by pack3.py. -/
import Derived.Test.YtkpdofiflhjahaaDoorPv0
namespace Go.Proofs.YtkpdofiflhjahaaDoor.Ps
set_option maxHeartbeats 0
set_option maxRecDepth 100000
set_option linter.unusedVariables false
open Go Go.RowKit
noncomputable def e11 (Γ : SemL) (n1 : Nat) (r0 : List (List D)) (x1 : Int) (x2 : Int) (r3 : List (List D)) (x4 : Int) (x5 : Int) (r6 : List (List D)) (x7 : Int) : Option Out := runF Γ shp
  (Sh.owns (shp 11)) sf11 n1 [V.one (X.d (D.list 3 r0)), V.agg [X.d (D.int IntKind.i64 x1), X.d (D.int IntKind.i64 x2), X.d (D.list 3 r3), X.d (D.int IntKind.i64 x4), X.d (D.int IntKind.i64
  x5), X.d (D.list 3 r6)], V.one (X.d (D.int IntKind.u8 x7))] []
noncomputable def q11_0 (Γ : SemL) (n1 : Nat) (r0 : List (List D)) (x1 : Int) (x2 : Int) (x3 : Int) (r4 : List (List D)) (x5 : Int) (x6 : Int) (r7 : List (List D)) : Option Out := Jn Γ shp n1
  j11_0 (St.mk [(0, V.one (X.d (D.list 3 r0))), (2, V.one (X.d (D.int IntKind.u8 x1))), (7, V.one (X.ptr 0 0)), (8, V.one (X.ptr 1 0))] [(0, Blk.mk [Lf.int IntKind.i64, Lf.int IntKind.i64,
  Lf.lst 3] [X.d (D.int IntKind.i64 x2), X.d (D.int IntKind.i64 x3), X.d (D.list 3 r4)]), (1, Blk.mk [Lf.int IntKind.i64, Lf.int IntKind.i64, Lf.lst 3] [X.d (D.int IntKind.i64 x5), X.d (D.int
  IntKind.i64 x6), X.d (D.list 3 r7)])] [] 2 0 0) (finK (Sh.owns (shp 11)) (SFunc.results sf11) 0)
noncomputable def q11_1 (Γ : SemL) (n1 : Nat) (r0 : List (List D)) (x1 : Int) (x2 : Int) (r3 : List (List D)) (x4 : Int) (x5 : Int) (r6 : List (List D)) : Option Out := Jn Γ shp n1 j11_1
  (St.mk [(0, V.one (X.d (D.list 3 r0))), (7, V.one (X.ptr 0 0)), (8, V.one (X.ptr 1 0))] [(0, Blk.mk [Lf.int IntKind.i64, Lf.int IntKind.i64, Lf.lst 3] [X.d (D.int IntKind.i64 x1), X.d
  (D.int IntKind.i64 x2), X.d (D.list 3 r3)]), (1, Blk.mk [Lf.int IntKind.i64, Lf.int IntKind.i64, Lf.lst 3] [X.d (D.int IntKind.i64 x4), X.d (D.int IntKind.i64 x5), X.d (D.list 3 r6)])] [] 2
  0 0) (finK (Sh.owns (shp 11)) (SFunc.results sf11) 0)
theorem e11_eq (Γ : SemL) (n1 : Nat) (r0 : List (List D)) (x1 : Int) (x2 : Int) (r3 : List (List D)) (x4 : Int) (x5 : Int) (r6 : List (List D)) (x7 : Int) : e11 Γ n1 r0 x1 x2 r3 x4 x5 r6 x7 =
  r_oB (Γ 23 [V.one (X.d (D.int IntKind.i64 1000)), V.one (X.d (D.list 3 r0))] []) [] fun c5_ => bif !c5_ then r_oB (Γ 13 [] []) [] fun c1_ => some (Out.mk true (V.one (X.d (D.bool c1_)))
  D.junk [] 0) else r_oB (Γ 23 [V.one (X.d (D.int IntKind.i64 1000)), V.one (X.d (D.list 3 [[D.int IntKind.i64 x1, D.int IntKind.i64 x2, D.list 3 r3], [D.int IntKind.i64 x4, D.int IntKind.i64
  x5, D.list 3 r6]]))] []) [] fun c4_ => bif !c4_ then r_oB (Γ 13 [] []) [] fun c2_ => some (Out.mk true (V.one (X.d (D.bool c2_))) D.junk [] 0) else bif Int.ofNat (List.length r0) == 0 then
  r_oB (Γ 13 [] []) [] fun c3_ => some (Out.mk true (V.one (X.d (D.bool c3_))) D.junk [] 0) else q11_0 Γ n1 r0 x7 x1 x2 r3 x4 x5 r6 := (run_step ..).trans (by kernel_rfl)
theorem q11_0_eq (Γ : SemL) (n1 : Nat) (r0 : List (List D)) (x1 : Int) (x2 : Int) (x3 : Int) (r4 : List (List D)) (x5 : Int) (x6 : Int) (r7 : List (List D)) : q11_0 Γ n1 r0 x1 x2 x3 r4 x5 x6
  r7 = bif decide (Int.ofNat (List.length r0) = 0) then none else bif decide (0 ≤ Int.tmod (IntKind.wrap IntKind.i64 x1) (Int.ofNat (List.length r0))) && decide (Int.tmod (IntKind.wrap
  IntKind.i64 x1) (Int.ofNat (List.length r0)) ≤ Int.ofNat (List.length r0)) && true && decide (0 ≤ Int.tmod (IntKind.wrap IntKind.i64 x1) (Int.ofNat (List.length r0))) then r_a3IIL3 (Γ 40
  [V.one (X.d (D.list 3 (List.drop 0 (List.take (Int.toNat (Int.tmod (IntKind.wrap IntKind.i64 x1) (Int.ofNat (List.length r0)))) r0))))] []) [] fun i5_ i6_ w7_ => r_a3IIL3 (Γ 40 [V.one (X.d
  (D.list 3 r0))] []) [] fun i2_ i3_ w4_ => r_oI (Γ 30 [V.agg [X.d (D.int IntKind.i64 i5_), X.d (D.int IntKind.i64 i6_), X.d (D.list 3 w7_)], V.agg [X.d (D.int IntKind.i64 i2_), X.d (D.int
  IntKind.i64 i3_), X.d (D.list 3 w4_)]] []) [] fun i1_ => bif i1_ != -1 then some (Out.mk true (V.one (X.d (D.bool false))) D.junk [] 0) else q11_1 Γ n1 r0 x2 x3 r4 x5 x6 r7 else none :=
  (Jn_step ..).trans (by kernel_rfl)
theorem q11_1_eq (Γ : SemL) (n1 : Nat) (r0 : List (List D)) (x1 : Int) (x2 : Int) (r3 : List (List D)) (x4 : Int) (x5 : Int) (r6 : List (List D)) : q11_1 Γ n1 r0 x1 x2 r3 x4 x5 r6 = bif
  !List.isEmpty r0 then bif true && true && true && Nat.ble ((0 + List.length r0) * 41) 140737488355328 then bif true && true && true && Nat.ble ((List.length ([] ++ r0) + List.length [[D.int
  IntKind.i64 x1, D.int IntKind.i64 x2, D.list 3 r3]]) * 41) 140737488355328 then r_a3IIL3 (Γ 40 [V.one (X.d (D.list 3 ([] ++ r0 ++ [[D.int IntKind.i64 x1, D.int IntKind.i64 x2, D.list 3
  r3]])))] []) [] fun i7_ i8_ w9_ => bif !List.isEmpty r0 then bif true && true && true && Nat.ble ((0 + List.length r0) * 41) 140737488355328 then bif true && true && true && Nat.ble
  ((List.length ([] ++ r0) + List.length [[D.int IntKind.i64 x4, D.int IntKind.i64 x5, D.list 3 r6]]) * 41) 140737488355328 then r_a3IIL3 (Γ 40 [V.one (X.d (D.list 3 ([] ++ r0 ++ [[D.int
  IntKind.i64 x4, D.int IntKind.i64 x5, D.list 3 r6]])))] []) [] fun i4_ i5_ w6_ => r_oI (Γ 30 [V.agg [X.d (D.int IntKind.i64 i7_), X.d (D.int IntKind.i64 i8_), X.d (D.list 3 w9_)], V.agg
  [X.d (D.int IntKind.i64 i4_), X.d (D.int IntKind.i64 i5_), X.d (D.list 3 w6_)]] []) [] fun i3_ => r_oI (Γ 30 [V.agg [X.d (D.int IntKind.i64 x1), X.d (D.int IntKind.i64 x2), X.d (D.list 3
  r3)], V.agg [X.d (D.int IntKind.i64 x4), X.d (D.int IntKind.i64 x5), X.d (D.list 3 r6)]] []) [] fun i2_ => bif i3_ == i2_ then r_oB (Γ 13 [] []) [] fun c1_ => some (Out.mk true (V.one (X.d
  (D.bool c1_))) D.junk [] 0) else some (Out.mk true (V.one (X.d (D.bool false))) D.junk [] 0) else none else none else none else none else none else none := (Jn_step ..).trans (by
  kernel_rfl)
theorem call11 (k : Nat) (r0 : List (List D)) (x1 : Int) (x2 : Int) (r3 : List (List D)) (x4 : Int) (x5 : Int) (r6 : List (List D)) (x7 : Int) : Ak (k + 1) 11 [V.one (X.d (D.list 3 r0)),
  V.agg [X.d (D.int IntKind.i64 x1), X.d (D.int IntKind.i64 x2), X.d (D.list 3 r3), X.d (D.int IntKind.i64 x4), X.d (D.int IntKind.i64 x5), X.d (D.list 3 r6)], V.one (X.d (D.int IntKind.u8
  x7))] [] = e11 (Ak k) k r0 x1 x2 r3 x4 x5 r6 x7 := call_step (by kernel_rfl) rfl
end Go.Proofs.YtkpdofiflhjahaaDoor.Ps
