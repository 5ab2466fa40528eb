/- What the pieces of the functions do, as functions of their data. Printed by pack3.py. -/
import Derived.Test.YtkpdofiflhjahaaDoorPv0
namespace Go.Proofs.YtkpdofiflhjahaaDoor.Ps
set_option maxHeartbeats 0
set_option maxRecDepth 100000
set_option linter.unusedVariables false
open Go Go.RowKit
noncomputable def e12 (Γ : SemL) (n1 : Nat) (x0 : Int) (r1 : List (List D)) : Option Out := runF Γ shp (Sh.owns (shp 12)) sf12 n1 [V.one (X.d (D.int IntKind.i64 x0)), V.one (X.d (D.list 2
  r1))] []
noncomputable def e23 (Γ : SemL) (n1 : Nat) (x0 : Int) (r1 : List (List D)) : Option Out := runF Γ shp (Sh.owns (shp 23)) sf23 n1 [V.one (X.d (D.int IntKind.i64 x0)), V.one (X.d (D.list 3
  r1))] []
noncomputable def l12_0 (n0 : Nat) (Γ : SemL) (n2 : Nat) (x0 : Int) (r1 : List (List D)) (x2 : Int) (x3 : Int) : Option Out := loopK Γ shp n0 [0, 1, 5, 6] lb12_0 (St.mk [(0, V.one (X.d (D.int
  IntKind.i64 x0))), (1, V.one (X.d (D.list 2 r1))), (5, V.one (X.d (D.int IntKind.i64 x2))), (6, V.one (X.d (D.int IntKind.i64 x3)))] [] [] 0 0 0) (kBlk 0 (kSeq (some [0, 5]) (fun s K => Jn
  Γ shp n2 j12_2 s K) (finK (Sh.owns (shp 12)) (SFunc.results sf12) 0)))
noncomputable def l23_0 (n0 : Nat) (Γ : SemL) (n2 : Nat) (x0 : Int) (r1 : List (List D)) (x2 : Int) (x3 : Int) : Option Out := loopK Γ shp n0 [0, 1, 5, 6] lb23_0 (St.mk [(0, V.one (X.d (D.int
  IntKind.i64 x0))), (1, V.one (X.d (D.list 3 r1))), (5, V.one (X.d (D.int IntKind.i64 x2))), (6, V.one (X.d (D.int IntKind.i64 x3)))] [] [] 0 0 0) (kBlk 0 (kSeq (some [0, 5]) (fun s K => Jn
  Γ shp n2 j23_2 s K) (finK (Sh.owns (shp 23)) (SFunc.results sf23) 0)))
noncomputable def q12_0 (Γ : SemL) (n1 : Nat) (n2 : Nat) (x0 : Int) (r1 : List (List D)) (x2 : Int) (x3 : Int) : Option Out := Jn Γ shp n1 j12_0 (St.mk [(0, V.one (X.d (D.int IntKind.i64
  x0))), (1, V.one (X.d (D.list 2 r1))), (5, V.one (X.d (D.int IntKind.i64 x2))), (6, V.one (X.d (D.int IntKind.i64 x3)))] [] [] 0 0 0) (kLoop (loopK Γ shp n1) [0, 1, 5, 6] lb12_0 (kBlk 0
  (kSeq (some [0, 5]) (fun s K => Jn Γ shp n2 j12_2 s K) (finK (Sh.owns (shp 12)) (SFunc.results sf12) 0))))
noncomputable def q12_2 (Γ : SemL) (n1 : Nat) (x0 : Int) (x1 : Int) : Option Out := Jn Γ shp n1 j12_2 (St.mk [(0, V.one (X.d (D.int IntKind.i64 x0))), (5, V.one (X.d (D.int IntKind.i64 x1)))]
  [] [] 0 0 0) (finK (Sh.owns (shp 12)) (SFunc.results sf12) 0)
noncomputable def q23_0 (Γ : SemL) (n1 : Nat) (n2 : Nat) (x0 : Int) (r1 : List (List D)) (x2 : Int) (x3 : Int) : Option Out := Jn Γ shp n1 j23_0 (St.mk [(0, V.one (X.d (D.int IntKind.i64
  x0))), (1, V.one (X.d (D.list 3 r1))), (5, V.one (X.d (D.int IntKind.i64 x2))), (6, V.one (X.d (D.int IntKind.i64 x3)))] [] [] 0 0 0) (kLoop (loopK Γ shp n1) [0, 1, 5, 6] lb23_0 (kBlk 0
  (kSeq (some [0, 5]) (fun s K => Jn Γ shp n2 j23_2 s K) (finK (Sh.owns (shp 23)) (SFunc.results sf23) 0))))
noncomputable def q23_2 (Γ : SemL) (n1 : Nat) (x0 : Int) (x1 : Int) : Option Out := Jn Γ shp n1 j23_2 (St.mk [(0, V.one (X.d (D.int IntKind.i64 x0))), (5, V.one (X.d (D.int IntKind.i64 x1)))]
  [] [] 0 0 0) (finK (Sh.owns (shp 23)) (SFunc.results sf23) 0)
noncomputable def e41 (Γ : SemL) (n1 : Nat) (x0 : Int) (r1 : List (List D)) (x2 : Int) (x3 : Int) : Option Out := runF Γ shp (Sh.owns (shp 41)) sf41 n1 [V.agg [X.d (D.int IntKind.i64 x0), X.d
  (D.list 2 r1)], V.one (X.d (D.int IntKind.i64 x2)), V.one (X.d (D.int IntKind.i64 x3))] []
noncomputable def q12_1 (Γ : SemL) (n1 : Nat) (n2 : Nat) (x0 : Int) (r1 : List (List D)) (x2 : Int) (x3 : Int) : Option Out := Jn Γ shp n1 j12_1 (St.mk [(0, V.one (X.d (D.int IntKind.i64
  x0))), (1, V.one (X.d (D.list 2 r1))), (5, V.one (X.d (D.int IntKind.i64 x2))), (6, V.one (X.d (D.int IntKind.i64 x3)))] [] [] 0 0 0) (kLoop (loopK Γ shp n1) [0, 1, 5, 6] lb12_0 (kBlk 0
  (kSeq (some [0, 5]) (fun s K => Jn Γ shp n2 j12_2 s K) (finK (Sh.owns (shp 12)) (SFunc.results sf12) 0))))
noncomputable def e50 (Γ : SemL) (n1 : Nat) (x0 : Int) (x1 : Int) (r2 : List (List D)) (x3 : Int) (x4 : Int) : Option Out := runF Γ shp (Sh.owns (shp 50)) sf50 n1 [V.agg [X.d (D.int
  IntKind.i64 x0), X.d (D.int IntKind.i64 x1), X.d (D.list 3 r2)], V.one (X.d (D.int IntKind.i64 x3)), V.one (X.d (D.int IntKind.i64 x4))] []
noncomputable def q23_1 (Γ : SemL) (n1 : Nat) (n2 : Nat) (x0 : Int) (r1 : List (List D)) (x2 : Int) (x3 : Int) : Option Out := Jn Γ shp n1 j23_1 (St.mk [(0, V.one (X.d (D.int IntKind.i64
  x0))), (1, V.one (X.d (D.list 3 r1))), (5, V.one (X.d (D.int IntKind.i64 x2))), (6, V.one (X.d (D.int IntKind.i64 x3)))] [] [] 0 0 0) (kLoop (loopK Γ shp n1) [0, 1, 5, 6] lb23_0 (kBlk 0
  (kSeq (some [0, 5]) (fun s K => Jn Γ shp n2 j23_2 s K) (finK (Sh.owns (shp 23)) (SFunc.results sf23) 0))))
noncomputable def l41_0 (n0 : Nat) (Γ : SemL) (n2 : Nat) (x0 : Int) (x1 : Int) (x2 : Int) (x3 : Int) (r4 : List (List D)) : Option Out := loopK Γ shp n0 [1, 2, 3, 7] lb41_0 (St.mk [(1, V.one
  (X.d (D.int IntKind.i64 x0))), (2, V.one (X.d (D.int IntKind.i64 x1))), (3, V.one (X.ptr 0 0)), (7, V.one (X.d (D.int IntKind.i64 x2)))] [(0, Blk.mk [Lf.int IntKind.i64, Lf.lst 2] [X.d
  (D.int IntKind.i64 x3), X.d (D.list 2 r4)])] [] 1 0 0) (kBlk 0 (kSeq (some [1]) (fun s K => Jn Γ shp n2 j41_2 s K) (finK (Sh.owns (shp 41)) (SFunc.results sf41) 0)))
noncomputable def l50_0 (n0 : Nat) (Γ : SemL) (n2 : Nat) (x0 : Int) (x1 : Int) (x2 : Int) (x3 : Int) (x4 : Int) (r5 : List (List D)) : Option Out := loopK Γ shp n0 [1, 2, 3, 7] lb50_0 (St.mk
  [(1, V.one (X.d (D.int IntKind.i64 x0))), (2, V.one (X.d (D.int IntKind.i64 x1))), (3, V.one (X.ptr 0 0)), (7, V.one (X.d (D.int IntKind.i64 x2)))] [(0, Blk.mk [Lf.int IntKind.i64, Lf.int
  IntKind.i64, Lf.lst 3] [X.d (D.int IntKind.i64 x3), X.d (D.int IntKind.i64 x4), X.d (D.list 3 r5)])] [] 1 0 0) (kBlk 0 (kSeq (some [1]) (fun s K => Jn Γ shp n2 j50_2 s K) (finK (Sh.owns
  (shp 50)) (SFunc.results sf50) 0)))
noncomputable def q41_0 (Γ : SemL) (n1 : Nat) (n2 : Nat) (x0 : Int) (x1 : Int) (x2 : Int) (x3 : Int) (r4 : List (List D)) : Option Out := Jn Γ shp n1 j41_0 (St.mk [(1, V.one (X.d (D.int
  IntKind.i64 x0))), (2, V.one (X.d (D.int IntKind.i64 x1))), (3, V.one (X.ptr 0 0)), (7, V.one (X.d (D.int IntKind.i64 x2)))] [(0, Blk.mk [Lf.int IntKind.i64, Lf.lst 2] [X.d (D.int
  IntKind.i64 x3), X.d (D.list 2 r4)])] [] 1 0 0) (kLoop (loopK Γ shp n1) [1, 2, 3, 7] lb41_0 (kBlk 0 (kSeq (some [1]) (fun s K => Jn Γ shp n2 j41_2 s K) (finK (Sh.owns (shp 41))
  (SFunc.results sf41) 0))))
noncomputable def q41_2 (Γ : SemL) (n1 : Nat) (x0 : Int) : Option Out := Jn Γ shp n1 j41_2 (St.mk [(1, V.one (X.d (D.int IntKind.i64 x0)))] [] [] 0 0 0) (finK (Sh.owns (shp 41))
  (SFunc.results sf41) 0)
noncomputable def q50_0 (Γ : SemL) (n1 : Nat) (n2 : Nat) (x0 : Int) (x1 : Int) (x2 : Int) (x3 : Int) (x4 : Int) (r5 : List (List D)) : Option Out := Jn Γ shp n1 j50_0 (St.mk [(1, V.one (X.d
  (D.int IntKind.i64 x0))), (2, V.one (X.d (D.int IntKind.i64 x1))), (3, V.one (X.ptr 0 0)), (7, V.one (X.d (D.int IntKind.i64 x2)))] [(0, Blk.mk [Lf.int IntKind.i64, Lf.int IntKind.i64,
  Lf.lst 3] [X.d (D.int IntKind.i64 x3), X.d (D.int IntKind.i64 x4), X.d (D.list 3 r5)])] [] 1 0 0) (kLoop (loopK Γ shp n1) [1, 2, 3, 7] lb50_0 (kBlk 0 (kSeq (some [1]) (fun s K => Jn Γ shp
  n2 j50_2 s K) (finK (Sh.owns (shp 50)) (SFunc.results sf50) 0))))
noncomputable def q50_2 (Γ : SemL) (n1 : Nat) (x0 : Int) : Option Out := Jn Γ shp n1 j50_2 (St.mk [(1, V.one (X.d (D.int IntKind.i64 x0)))] [] [] 0 0 0) (finK (Sh.owns (shp 50))
  (SFunc.results sf50) 0)
noncomputable def q41_1 (Γ : SemL) (n1 : Nat) (n2 : Nat) (x0 : Int) (x1 : Int) (x2 : Int) (x3 : Int) (r4 : List (List D)) : Option Out := Jn Γ shp n1 j41_1 (St.mk [(1, V.one (X.d (D.int
  IntKind.i64 x0))), (2, V.one (X.d (D.int IntKind.i64 x1))), (3, V.one (X.ptr 0 0)), (7, V.one (X.d (D.int IntKind.i64 x2)))] [(0, Blk.mk [Lf.int IntKind.i64, Lf.lst 2] [X.d (D.int
  IntKind.i64 x3), X.d (D.list 2 r4)])] [] 1 0 0) (kLoop (loopK Γ shp n1) [1, 2, 3, 7] lb41_0 (kBlk 0 (kSeq (some [1]) (fun s K => Jn Γ shp n2 j41_2 s K) (finK (Sh.owns (shp 41))
  (SFunc.results sf41) 0))))
noncomputable def q50_1 (Γ : SemL) (n1 : Nat) (n2 : Nat) (x0 : Int) (x1 : Int) (x2 : Int) (x3 : Int) (x4 : Int) (r5 : List (List D)) : Option Out := Jn Γ shp n1 j50_1 (St.mk [(1, V.one (X.d
  (D.int IntKind.i64 x0))), (2, V.one (X.d (D.int IntKind.i64 x1))), (3, V.one (X.ptr 0 0)), (7, V.one (X.d (D.int IntKind.i64 x2)))] [(0, Blk.mk [Lf.int IntKind.i64, Lf.int IntKind.i64,
  Lf.lst 3] [X.d (D.int IntKind.i64 x3), X.d (D.int IntKind.i64 x4), X.d (D.list 3 r5)])] [] 1 0 0) (kLoop (loopK Γ shp n1) [1, 2, 3, 7] lb50_0 (kBlk 0 (kSeq (some [1]) (fun s K => Jn Γ shp
  n2 j50_2 s K) (finK (Sh.owns (shp 50)) (SFunc.results sf50) 0))))
theorem e12_eq (Γ : SemL) (n1 : Nat) (x0 : Int) (r1 : List (List D)) : e12 Γ n1 x0 r1 = l12_0 n1 Γ n1 x0 r1 0 0 := (run_step ..).trans (by kernel_rfl)
theorem e23_eq (Γ : SemL) (n1 : Nat) (x0 : Int) (r1 : List (List D)) : e23 Γ n1 x0 r1 = l23_0 n1 Γ n1 x0 r1 0 0 := (run_step ..).trans (by kernel_rfl)
theorem l12_0_eq (n0 : Nat) (Γ : SemL) (n2 : Nat) (x0 : Int) (r1 : List (List D)) (x2 : Int) (x3 : Int) : l12_0 (n0 + 1) Γ n2 x0 r1 x2 x3 = bif decide (x3 < Int.ofNat (List.length r1)) then
  q12_0 Γ n0 n2 x0 r1 x2 x3 else q12_2 Γ n2 x0 x2 := (loop_step ..).trans (by kernel_rfl)
theorem l23_0_eq (n0 : Nat) (Γ : SemL) (n2 : Nat) (x0 : Int) (r1 : List (List D)) (x2 : Int) (x3 : Int) : l23_0 (n0 + 1) Γ n2 x0 r1 x2 x3 = bif decide (x3 < Int.ofNat (List.length r1)) then
  q23_0 Γ n0 n2 x0 r1 x2 x3 else q23_2 Γ n2 x0 x2 := (loop_step ..).trans (by kernel_rfl)
theorem q12_0_eq (Γ : SemL) (n1 : Nat) (n2 : Nat) (x0 : Int) (r1 : List (List D)) (x2 : Int) (x3 : Int) : q12_0 Γ n1 n2 x0 r1 x2 x3 = bif decide (0 ≤ x3) && decide (x3 < Int.ofNat
  (List.length r1)) then r_oI (Γ 41 [V.agg [X.d (List.getD (List.getD r1 (Int.toNat x3) []) 0 D.junk), X.d (List.getD (List.getD r1 (Int.toNat x3) []) 1 D.junk)], V.one (X.d (D.int
  IntKind.i64 x2)), V.one (X.d (D.int IntKind.i64 x0))] []) [] fun i1_ => q12_1 Γ n1 n2 x0 r1 i1_ x3 else none := (Jn_step ..).trans (by kernel_rfl)
theorem q12_2_eq (Γ : SemL) (n1 : Nat) (x0 : Int) (x1 : Int) : q12_2 Γ n1 x0 x1 = some (Out.mk true (V.one (X.d (D.bool (decide (x1 ≤ x0))))) D.junk [] 0) := (Jn_step ..).trans (by
  kernel_rfl)
theorem q23_0_eq (Γ : SemL) (n1 : Nat) (n2 : Nat) (x0 : Int) (r1 : List (List D)) (x2 : Int) (x3 : Int) : q23_0 Γ n1 n2 x0 r1 x2 x3 = bif decide (0 ≤ x3) && decide (x3 < Int.ofNat
  (List.length r1)) then r_oI (Γ 50 [V.agg [X.d (List.getD (List.getD r1 (Int.toNat x3) []) 0 D.junk), X.d (List.getD (List.getD r1 (Int.toNat x3) []) 1 D.junk), X.d (List.getD (List.getD r1
  (Int.toNat x3) []) 2 D.junk)], V.one (X.d (D.int IntKind.i64 x2)), V.one (X.d (D.int IntKind.i64 x0))] []) [] fun i1_ => q23_1 Γ n1 n2 x0 r1 i1_ x3 else none := (Jn_step ..).trans (by
  kernel_rfl)
theorem q23_2_eq (Γ : SemL) (n1 : Nat) (x0 : Int) (x1 : Int) : q23_2 Γ n1 x0 x1 = some (Out.mk true (V.one (X.d (D.bool (decide (x1 ≤ x0))))) D.junk [] 0) := (Jn_step ..).trans (by
  kernel_rfl)
theorem e41_eq (Γ : SemL) (n1 : Nat) (x0 : Int) (r1 : List (List D)) (x2 : Int) (x3 : Int) : e41 Γ n1 x0 r1 x2 x3 = l41_0 n1 Γ n1 (IntKind.wrap IntKind.i64 (x2 + 1)) x3 0 x0 r1 := (run_step
  ..).trans (by kernel_rfl)
theorem q12_1_eq (Γ : SemL) (n1 : Nat) (n2 : Nat) (x0 : Int) (r1 : List (List D)) (x2 : Int) (x3 : Int) : q12_1 Γ n1 n2 x0 r1 x2 x3 = l12_0 n1 Γ n2 x0 r1 x2 (IntKind.wrap IntKind.i64 (x3 +
  1)) := (Jn_step ..).trans (by kernel_rfl)
theorem e50_eq (Γ : SemL) (n1 : Nat) (x0 : Int) (x1 : Int) (r2 : List (List D)) (x3 : Int) (x4 : Int) : e50 Γ n1 x0 x1 r2 x3 x4 = l50_0 n1 Γ n1 (IntKind.wrap IntKind.i64 (x3 + 1)) x4 0 x0 x1
  r2 := (run_step ..).trans (by kernel_rfl)
theorem q23_1_eq (Γ : SemL) (n1 : Nat) (n2 : Nat) (x0 : Int) (r1 : List (List D)) (x2 : Int) (x3 : Int) : q23_1 Γ n1 n2 x0 r1 x2 x3 = l23_0 n1 Γ n2 x0 r1 x2 (IntKind.wrap IntKind.i64 (x3 +
  1)) := (Jn_step ..).trans (by kernel_rfl)
theorem l41_0_eq (n0 : Nat) (Γ : SemL) (n2 : Nat) (x0 : Int) (x1 : Int) (x2 : Int) (x3 : Int) (r4 : List (List D)) : l41_0 (n0 + 1) Γ n2 x0 x1 x2 x3 r4 = bif decide (x2 < Int.ofNat
  (List.length r4)) then bif decide (x0 ≤ x1) then q41_0 Γ n0 n2 x0 x1 x2 x3 r4 else q41_2 Γ n2 x0 else q41_2 Γ n2 x0 := (loop_step ..).trans (by kernel_rfl)
theorem l50_0_eq (n0 : Nat) (Γ : SemL) (n2 : Nat) (x0 : Int) (x1 : Int) (x2 : Int) (x3 : Int) (x4 : Int) (r5 : List (List D)) : l50_0 (n0 + 1) Γ n2 x0 x1 x2 x3 x4 r5 = bif decide (x2 <
  Int.ofNat (List.length r5)) then bif decide (x0 ≤ x1) then q50_0 Γ n0 n2 x0 x1 x2 x3 x4 r5 else q50_2 Γ n2 x0 else q50_2 Γ n2 x0 := (loop_step ..).trans (by kernel_rfl)
theorem q41_0_eq (Γ : SemL) (n1 : Nat) (n2 : Nat) (x0 : Int) (x1 : Int) (x2 : Int) (x3 : Int) (r4 : List (List D)) : q41_0 Γ n1 n2 x0 x1 x2 x3 r4 = bif decide (0 ≤ x2) && decide (x2 <
  Int.ofNat (List.length r4)) then r_oI (Γ 41 [V.agg [X.d (List.getD (List.getD r4 (Int.toNat x2) []) 0 D.junk), X.d (List.getD (List.getD r4 (Int.toNat x2) []) 1 D.junk)], V.one (X.d (D.int
  IntKind.i64 x0)), V.one (X.d (D.int IntKind.i64 x1))] []) [] fun i1_ => q41_1 Γ n1 n2 i1_ x1 x2 x3 r4 else none := (Jn_step ..).trans (by kernel_rfl)
theorem q41_2_eq (Γ : SemL) (n1 : Nat) (x0 : Int) : q41_2 Γ n1 x0 = some (Out.mk true (V.one (X.d (D.int IntKind.i64 x0))) D.junk [] 0) := (Jn_step ..).trans (by kernel_rfl)
theorem q50_0_eq (Γ : SemL) (n1 : Nat) (n2 : Nat) (x0 : Int) (x1 : Int) (x2 : Int) (x3 : Int) (x4 : Int) (r5 : List (List D)) : q50_0 Γ n1 n2 x0 x1 x2 x3 x4 r5 = bif decide (0 ≤ x2) && decide
  (x2 < Int.ofNat (List.length r5)) then r_oI (Γ 50 [V.agg [X.d (List.getD (List.getD r5 (Int.toNat x2) []) 0 D.junk), X.d (List.getD (List.getD r5 (Int.toNat x2) []) 1 D.junk), X.d
  (List.getD (List.getD r5 (Int.toNat x2) []) 2 D.junk)], V.one (X.d (D.int IntKind.i64 x0)), V.one (X.d (D.int IntKind.i64 x1))] []) [] fun i1_ => q50_1 Γ n1 n2 i1_ x1 x2 x3 x4 r5 else none
  := (Jn_step ..).trans (by kernel_rfl)
theorem q50_2_eq (Γ : SemL) (n1 : Nat) (x0 : Int) : q50_2 Γ n1 x0 = some (Out.mk true (V.one (X.d (D.int IntKind.i64 x0))) D.junk [] 0) := (Jn_step ..).trans (by kernel_rfl)
theorem q41_1_eq (Γ : SemL) (n1 : Nat) (n2 : Nat) (x0 : Int) (x1 : Int) (x2 : Int) (x3 : Int) (r4 : List (List D)) : q41_1 Γ n1 n2 x0 x1 x2 x3 r4 = l41_0 n1 Γ n2 x0 x1 (IntKind.wrap
  IntKind.i64 (x2 + 1)) x3 r4 := (Jn_step ..).trans (by kernel_rfl)
theorem q50_1_eq (Γ : SemL) (n1 : Nat) (n2 : Nat) (x0 : Int) (x1 : Int) (x2 : Int) (x3 : Int) (x4 : Int) (r5 : List (List D)) : q50_1 Γ n1 n2 x0 x1 x2 x3 x4 r5 = l50_0 n1 Γ n2 x0 x1
  (IntKind.wrap IntKind.i64 (x2 + 1)) x3 x4 r5 := (Jn_step ..).trans (by kernel_rfl)
theorem call12 (k : Nat) (x0 : Int) (r1 : List (List D)) : Ak (k + 1) 12 [V.one (X.d (D.int IntKind.i64 x0)), V.one (X.d (D.list 2 r1))] [] = e12 (Ak k) k x0 r1 := call_step (by kernel_rfl)
  rfl
theorem call23 (k : Nat) (x0 : Int) (r1 : List (List D)) : Ak (k + 1) 23 [V.one (X.d (D.int IntKind.i64 x0)), V.one (X.d (D.list 3 r1))] [] = e23 (Ak k) k x0 r1 := call_step (by kernel_rfl)
  rfl
theorem call41 (k : Nat) (x0 : Int) (r1 : List (List D)) (x2 : Int) (x3 : Int) : Ak (k + 1) 41 [V.agg [X.d (D.int IntKind.i64 x0), X.d (D.list 2 r1)], V.one (X.d (D.int IntKind.i64 x2)),
  V.one (X.d (D.int IntKind.i64 x3))] [] = e41 (Ak k) k x0 r1 x2 x3 := call_step (by kernel_rfl) rfl
theorem call50 (k : Nat) (x0 : Int) (x1 : Int) (r2 : List (List D)) (x3 : Int) (x4 : Int) : Ak (k + 1) 50 [V.agg [X.d (D.int IntKind.i64 x0), X.d (D.int IntKind.i64 x1), X.d (D.list 3 r2)],
  V.one (X.d (D.int IntKind.i64 x3)), V.one (X.d (D.int IntKind.i64 x4))] [] = e50 (Ak k) k x0 x1 r2 x3 x4 := call_step (by kernel_rfl) rfl
end Go.Proofs.YtkpdofiflhjahaaDoor.Ps
