/- What the pieces of the functions do, as functions of their data. Printed by pack4.py. -/
import Derived.Test.YtaphnbaiamnfpaaDoorPv0
namespace Go.Proofs.YtaphnbaiamnfpaaDoor.Ps
set_option maxHeartbeats 0
set_option maxRecDepth 100000
set_option linter.unusedVariables false
open Go Go.RowKit
noncomputable def e28 (Γ : Bool → SemL) (n1 : Nat) (x0 : Int) (r1 : List (List D)) : Option Out := runF Γ shp rc false (shp 28) sf28 n1 [V.agg [X.d (D.int IntKind.i64 x0), X.d (D.list 2 r1)]]
  []
noncomputable def e31 (Γ : Bool → SemL) (n1 : Nat) (x0 : Int) (r1 : List (List D)) : Option Out := runF Γ shp rc false (shp 31) sf31 n1 [V.agg [X.d (D.int IntKind.i64 x0), X.d (D.list 2 r1)]]
  []
noncomputable def e50 (Γ : Bool → SemL) (n1 : Nat) (x0 : Int) (r1 : List (List D)) (x2 : Int) : Option Out := runF Γ shp rc false (shp 50) sf50 n1 [V.agg [X.d (D.int IntKind.i64 x0), X.d
  (D.list 2 r1)], V.one (X.d (D.int IntKind.i64 x2))] []
noncomputable def e54 (Γ : Bool → SemL) (n1 : Nat) (x0 : Int) (r1 : List (List D)) (x2 : Int) : Option Out := runF Γ shp rc false (shp 54) sf54 n1 [V.agg [X.d (D.int IntKind.i64 x0), X.d
  (D.list 2 r1)], V.one (X.d (D.int IntKind.i64 x2))] []
noncomputable def q50_0 (Γ : Bool → SemL) (n1 : Nat) (x0 : Int) (r1 : List (List D)) (x2 : Int) : Option Out := Jn (Γ false) shp n1 j50_0 (St.mk [(2, V.one (X.ptr 0 0)), (3, V.one (X.ptr 1
  0))] [(0, Blk.mk [Lf.int IntKind.i64, Lf.lst 2] [X.d (D.int IntKind.i64 x0), X.d (D.list 2 r1)]), (1, Blk.mk [Lf.int IntKind.i64] [X.d (D.int IntKind.i64 x2)])] [] 2 0 0 []) (finK (Γ true)
  rc false (shp 50) (SFunc.results sf50) 0)
noncomputable def q54_0 (Γ : Bool → SemL) (n1 : Nat) (x0 : Int) (x1 : Int) (x2 : Int) (r3 : List (List D)) : Option Out := Jn (Γ false) shp n1 j54_0 (St.mk [(1, V.one (X.d (D.int IntKind.i64
  x0))), (2, V.one (X.ptr 0 0)), (5, V.one (X.d (D.int IntKind.i64 x1)))] [(0, Blk.mk [Lf.int IntKind.i64, Lf.lst 2] [X.d (D.int IntKind.i64 x2), X.d (D.list 2 r3)])] [] 1 0 0 []) (finK (Γ
  true) rc false (shp 54) (SFunc.results sf54) 0)
noncomputable def q50_1 (Γ : Bool → SemL) (n1 : Nat) (x0 : Int) (b1 : Bool) (x2 : Int) (r3 : List (List D)) (x4 : Int) : Option Out := Jn (Γ false) shp n1 j50_1 (St.mk [(2, V.one (X.ptr 0
  0)), (3, V.one (X.ptr 1 0)), (8, V.one (X.d (D.int IntKind.i64 x0))), (9, V.one (X.d (D.bool b1)))] [(0, Blk.mk [Lf.int IntKind.i64, Lf.lst 2] [X.d (D.int IntKind.i64 x2), X.d (D.list 2
  r3)]), (1, Blk.mk [Lf.int IntKind.i64] [X.d (D.int IntKind.i64 x4)])] [] 2 0 0 []) (kBlk 0 (kSeq (some [2, 3]) (fun s K => Jn (Γ false) shp n1 j50_2 s K) (finK (Γ true) rc false (shp 50)
  (SFunc.results sf50) 0)))
noncomputable def l54_0 (n0 : Nat) (Γ : Bool → SemL) (n2 : Nat) (x0 : Int) (x1 : Int) (x2 : Int) (x3 : Int) (r4 : List (List D)) : Option Out := loopK (Γ false) shp n0 [1, 2, 5, 7] lb54_0
  (St.mk [(1, V.one (X.d (D.int IntKind.i64 x0))), (2, V.one (X.ptr 0 0)), (5, V.one (X.d (D.int IntKind.i64 x1))), (7, V.one (X.d (D.int IntKind.i64 x2)))] [(0, Blk.mk [Lf.int IntKind.i64,
  Lf.lst 2] [X.d (D.int IntKind.i64 x3), X.d (D.list 2 r4)])] [] 1 0 0 []) (kBlk 0 (kSeq (some []) (fun s K => Jn (Γ false) shp n2 j54_3 s K) (finK (Γ true) rc false (shp 54) (SFunc.results
  sf54) 0)))
noncomputable def q50_2 (Γ : Bool → SemL) (n1 : Nat) (x0 : Int) (r1 : List (List D)) (x2 : Int) : Option Out := Jn (Γ false) shp n1 j50_2 (St.mk [(2, V.one (X.ptr 0 0)), (3, V.one (X.ptr 1
  0))] [(0, Blk.mk [Lf.int IntKind.i64, Lf.lst 2] [X.d (D.int IntKind.i64 x0), X.d (D.list 2 r1)]), (1, Blk.mk [Lf.int IntKind.i64] [X.d (D.int IntKind.i64 x2)])] [] 2 0 0 []) (finK (Γ true)
  rc false (shp 50) (SFunc.results sf50) 0)
noncomputable def q54_1 (Γ : Bool → SemL) (n1 : Nat) (n2 : Nat) (x0 : Int) (x1 : Int) (x2 : Int) (x3 : Int) (r4 : List (List D)) : Option Out := Jn (Γ false) shp n1 j54_1 (St.mk [(1, V.one
  (X.d (D.int IntKind.i64 x0))), (2, V.one (X.ptr 0 0)), (5, V.one (X.d (D.int IntKind.i64 x1))), (7, V.one (X.d (D.int IntKind.i64 x2)))] [(0, Blk.mk [Lf.int IntKind.i64, Lf.lst 2] [X.d
  (D.int IntKind.i64 x3), X.d (D.list 2 r4)])] [] 1 0 0 []) (kLoop (loopK (Γ false) shp n1) [1, 2, 5, 7] lb54_0 (kBlk 0 (kSeq (some []) (fun s K => Jn (Γ false) shp n2 j54_3 s K) (finK (Γ
  true) rc false (shp 54) (SFunc.results sf54) 0))))
noncomputable def q54_3 (Γ : Bool → SemL) (n1 : Nat) : Option Out := Jn (Γ false) shp n1 j54_3 (St.mk [] [] [] 0 0 0 []) (finK (Γ true) rc false (shp 54) (SFunc.results sf54) 0)
noncomputable def e86f87 (Γ : Bool → SemL) (n1 : Nat) (r0 : List (List D)) (x1 : Int) : Option Out := runF Γ shp rc false (shp 86) sf86 n1 [V.one (X.d (D.list 2 r0)), V.one (X.fn 87 [X.ptr 0
  0])] [([Lf.int IntKind.i64], [X.d (D.int IntKind.i64 x1)])]
noncomputable def q54_2 (Γ : Bool → SemL) (n1 : Nat) (n2 : Nat) (x0 : Int) (x1 : Int) (x2 : Int) (x3 : Int) (r4 : List (List D)) : Option Out := Jn (Γ false) shp n1 j54_2 (St.mk [(1, V.one
  (X.d (D.int IntKind.i64 x0))), (2, V.one (X.ptr 0 0)), (5, V.one (X.d (D.int IntKind.i64 x1))), (7, V.one (X.d (D.int IntKind.i64 x2)))] [(0, Blk.mk [Lf.int IntKind.i64, Lf.lst 2] [X.d
  (D.int IntKind.i64 x3), X.d (D.list 2 r4)])] [] 1 0 0 []) (kLoop (loopK (Γ false) shp n1) [1, 2, 5, 7] lb54_0 (kBlk 0 (kSeq (some []) (fun s K => Jn (Γ false) shp n2 j54_3 s K) (finK (Γ
  true) rc false (shp 54) (SFunc.results sf54) 0))))
noncomputable def e107f87 (Γ : Bool → SemL) (n1 : Nat) (r0 : List (List D)) (x1 : Int) : Option Out := runF Γ shp rc false (shp 107) sf107 n1 [V.one (X.d (D.list 2 r0)), V.one (X.fn 87 [X.ptr
  0 0])] [([Lf.int IntKind.i64], [X.d (D.int IntKind.i64 x1)])]
noncomputable def l107_0 (n0 : Nat) (Γ : Bool → SemL) (n2 : Nat) (z3 : Int) (r0 : List (List D)) (x1 : Int) (x2 : Int) (x3 : Int) : Option Out := loopK (Γ false) shp n0 [0, 1, 7, 8] lb107_0
  (St.mk [(0, V.one (X.d (D.list 2 r0))), (1, V.one (X.fn 87 [X.ptr 0 0])), (7, V.one (X.d (D.int IntKind.i64 x1))), (8, V.one (X.d (D.int IntKind.i64 x2)))] [(0, Blk.mk [Lf.int IntKind.i64]
  [X.d (D.int IntKind.i64 x3)])] [] 1 0 1 []) (kBlk 0 (kSeq (some []) (fun s K => Jn (Γ false) shp n2 j107_2 s K) (finK (Γ true) rc false (shp 107) (SFunc.results sf107) (List.length
  [([Lf.int IntKind.i64], [X.d (D.int IntKind.i64 z3)])]))))
noncomputable def q107_0 (Γ : Bool → SemL) (n1 : Nat) (n2 : Nat) (z3 : Int) (r0 : List (List D)) (x1 : Int) (x2 : Int) (x3 : Int) : Option Out := Jn (Γ false) shp n1 j107_0 (St.mk [(0, V.one
  (X.d (D.list 2 r0))), (1, V.one (X.fn 87 [X.ptr 0 0])), (7, V.one (X.d (D.int IntKind.i64 x1))), (8, V.one (X.d (D.int IntKind.i64 x2)))] [(0, Blk.mk [Lf.int IntKind.i64] [X.d (D.int
  IntKind.i64 x3)])] [] 1 0 1 []) (kLoop (loopK (Γ false) shp n1) [0, 1, 7, 8] lb107_0 (kBlk 0 (kSeq (some []) (fun s K => Jn (Γ false) shp n2 j107_2 s K) (finK (Γ true) rc false (shp 107)
  (SFunc.results sf107) (List.length [([Lf.int IntKind.i64], [X.d (D.int IntKind.i64 z3)])])))))
noncomputable def q107_2 (Γ : Bool → SemL) (n1 : Nat) (z2 : Int) (x0 : Int) : Option Out := Jn (Γ false) shp n1 j107_2 (St.mk [] [(0, Blk.mk [Lf.int IntKind.i64] [X.d (D.int IntKind.i64
  x0)])] [] 1 0 1 []) (finK (Γ true) rc false (shp 107) (SFunc.results sf107) (List.length [([Lf.int IntKind.i64], [X.d (D.int IntKind.i64 z2)])]))
noncomputable def e87 (Γ : Bool → SemL) (n1 : Nat) (x0 : Int) (r1 : List (List D)) (x2 : Int) : Option Out := runF Γ shp rc false (shp 87) sf87 n1 [V.agg [X.d (D.int IntKind.i64 x0), X.d
  (D.list 2 r1)], V.one (X.ptr 0 0)] [([Lf.int IntKind.i64], [X.d (D.int IntKind.i64 x2)])]
noncomputable def q107_1 (Γ : Bool → SemL) (n1 : Nat) (n2 : Nat) (z3 : Int) (r0 : List (List D)) (x1 : Int) (x2 : Int) (x3 : Int) : Option Out := Jn (Γ false) shp n1 j107_1 (St.mk [(0, V.one
  (X.d (D.list 2 r0))), (1, V.one (X.fn 87 [X.ptr 0 0])), (7, V.one (X.d (D.int IntKind.i64 x1))), (8, V.one (X.d (D.int IntKind.i64 x2)))] [(0, Blk.mk [Lf.int IntKind.i64] [X.d (D.int
  IntKind.i64 x3)])] [] 1 0 1 []) (kLoop (loopK (Γ false) shp n1) [0, 1, 7, 8] lb107_0 (kBlk 0 (kSeq (some []) (fun s K => Jn (Γ false) shp n2 j107_2 s K) (finK (Γ true) rc false (shp 107)
  (SFunc.results sf107) (List.length [([Lf.int IntKind.i64], [X.d (D.int IntKind.i64 z3)])])))))
theorem e28_eq (Γ : Bool → SemL) (n1 : Nat) (x0 : Int) (r1 : List (List D)) : e28 Γ n1 x0 r1 = r_oB (Γ false 50 [V.agg [X.d (D.int IntKind.i64 x0), X.d (D.list 2 r1)], V.one (X.d (D.int
  IntKind.i64 40))] []) (fun c0_ => some (Out.mk true (V.one (X.d (D.bool c0_))) D.junk [] 0)) fun d1_ => some (Out.mk false V.junk d1_ [] 0) := (run_step ..).trans (by kernel_rfl)
theorem e31_eq (Γ : Bool → SemL) (n1 : Nat) (x0 : Int) (r1 : List (List D)) : e31 Γ n1 x0 r1 = r_oB (Γ false 54 [V.agg [X.d (D.int IntKind.i64 x0), X.d (D.list 2 r1)], V.one (X.d (D.int
  IntKind.i64 1))] []) (fun c0_ => some (Out.mk true (V.one (X.d (D.bool c0_))) D.junk [] 0)) fun d1_ => some (Out.mk false V.junk d1_ [] 0) := (run_step ..).trans (by kernel_rfl)
theorem e50_eq (Γ : Bool → SemL) (n1 : Nat) (x0 : Int) (r1 : List (List D)) (x2 : Int) : e50 Γ n1 x0 r1 x2 = bif decide (x2 < 1) then some (Out.mk true (V.one (X.d (D.bool false))) D.junk []
  0) else q50_0 Γ n1 x0 r1 x2 := (run_step ..).trans (by kernel_rfl)
theorem e54_eq (Γ : Bool → SemL) (n1 : Nat) (x0 : Int) (r1 : List (List D)) (x2 : Int) : e54 Γ n1 x0 r1 x2 = bif x0 == 1 then bif Int.ofNat (List.length r1) == 0 then bif decide (x2 > 40)
  then some (Out.mk true (V.one (X.d (D.bool false))) D.junk [] 0) else q54_0 Γ n1 x2 (Int.ofNat (List.length r1)) x0 r1 else bif x0 == 3 then bif decide (Int.ofNat (List.length r1) ≥ 2) then
  bif decide (Int.ofNat (List.length r1) ≤ 4) then bif decide (x2 > 40) then some (Out.mk true (V.one (X.d (D.bool false))) D.junk [] 0) else q54_0 Γ n1 x2 (Int.ofNat (List.length r1)) x0 r1
  else bif x0 == 4 then bif !Int.ofNat (List.length r1) == 1 then some (Out.mk true (V.one (X.d (D.bool false))) D.junk [] 0) else bif decide (x2 > 40) then some (Out.mk true (V.one (X.d
  (D.bool false))) D.junk [] 0) else q54_0 Γ n1 x2 (Int.ofNat (List.length r1)) x0 r1 else some (Out.mk true (V.one (X.d (D.bool false))) D.junk [] 0) else bif x0 == 4 then bif !Int.ofNat
  (List.length r1) == 1 then some (Out.mk true (V.one (X.d (D.bool false))) D.junk [] 0) else bif decide (x2 > 40) then some (Out.mk true (V.one (X.d (D.bool false))) D.junk [] 0) else q54_0
  Γ n1 x2 (Int.ofNat (List.length r1)) x0 r1 else some (Out.mk true (V.one (X.d (D.bool false))) D.junk [] 0) else bif x0 == 4 then bif !Int.ofNat (List.length r1) == 1 then some (Out.mk true
  (V.one (X.d (D.bool false))) D.junk [] 0) else bif decide (x2 > 40) then some (Out.mk true (V.one (X.d (D.bool false))) D.junk [] 0) else q54_0 Γ n1 x2 (Int.ofNat (List.length r1)) x0 r1
  else some (Out.mk true (V.one (X.d (D.bool false))) D.junk [] 0) else bif x0 == 2 then bif Int.ofNat (List.length r1) == 0 then bif decide (x2 > 40) then some (Out.mk true (V.one (X.d
  (D.bool false))) D.junk [] 0) else q54_0 Γ n1 x2 (Int.ofNat (List.length r1)) x0 r1 else bif x0 == 3 then bif decide (Int.ofNat (List.length r1) ≥ 2) then bif decide (Int.ofNat (List.length
  r1) ≤ 4) then bif decide (x2 > 40) then some (Out.mk true (V.one (X.d (D.bool false))) D.junk [] 0) else q54_0 Γ n1 x2 (Int.ofNat (List.length r1)) x0 r1 else bif x0 == 4 then bif
  !Int.ofNat (List.length r1) == 1 then some (Out.mk true (V.one (X.d (D.bool false))) D.junk [] 0) else bif decide (x2 > 40) then some (Out.mk true (V.one (X.d (D.bool false))) D.junk [] 0)
  else q54_0 Γ n1 x2 (Int.ofNat (List.length r1)) x0 r1 else some (Out.mk true (V.one (X.d (D.bool false))) D.junk [] 0) else bif x0 == 4 then bif !Int.ofNat (List.length r1) == 1 then some
  (Out.mk true (V.one (X.d (D.bool false))) D.junk [] 0) else bif decide (x2 > 40) then some (Out.mk true (V.one (X.d (D.bool false))) D.junk [] 0) else q54_0 Γ n1 x2 (Int.ofNat (List.length
  r1)) x0 r1 else some (Out.mk true (V.one (X.d (D.bool false))) D.junk [] 0) else bif x0 == 4 then bif !Int.ofNat (List.length r1) == 1 then some (Out.mk true (V.one (X.d (D.bool false)))
  D.junk [] 0) else bif decide (x2 > 40) then some (Out.mk true (V.one (X.d (D.bool false))) D.junk [] 0) else q54_0 Γ n1 x2 (Int.ofNat (List.length r1)) x0 r1 else some (Out.mk true (V.one
  (X.d (D.bool false))) D.junk [] 0) else bif x0 == 3 then bif decide (Int.ofNat (List.length r1) ≥ 2) then bif decide (Int.ofNat (List.length r1) ≤ 4) then bif decide (x2 > 40) then some
  (Out.mk true (V.one (X.d (D.bool false))) D.junk [] 0) else q54_0 Γ n1 x2 (Int.ofNat (List.length r1)) x0 r1 else bif x0 == 4 then bif !Int.ofNat (List.length r1) == 1 then some (Out.mk
  true (V.one (X.d (D.bool false))) D.junk [] 0) else bif decide (x2 > 40) then some (Out.mk true (V.one (X.d (D.bool false))) D.junk [] 0) else q54_0 Γ n1 x2 (Int.ofNat (List.length r1)) x0
  r1 else some (Out.mk true (V.one (X.d (D.bool false))) D.junk [] 0) else bif x0 == 4 then bif !Int.ofNat (List.length r1) == 1 then some (Out.mk true (V.one (X.d (D.bool false))) D.junk []
  0) else bif decide (x2 > 40) then some (Out.mk true (V.one (X.d (D.bool false))) D.junk [] 0) else q54_0 Γ n1 x2 (Int.ofNat (List.length r1)) x0 r1 else some (Out.mk true (V.one (X.d
  (D.bool false))) D.junk [] 0) else bif x0 == 4 then bif !Int.ofNat (List.length r1) == 1 then some (Out.mk true (V.one (X.d (D.bool false))) D.junk [] 0) else bif decide (x2 > 40) then some
  (Out.mk true (V.one (X.d (D.bool false))) D.junk [] 0) else q54_0 Γ n1 x2 (Int.ofNat (List.length r1)) x0 r1 else some (Out.mk true (V.one (X.d (D.bool false))) D.junk [] 0) := (run_step
  ..).trans (by kernel_rfl)
theorem q50_0_eq (Γ : Bool → SemL) (n1 : Nat) (x0 : Int) (r1 : List (List D)) (x2 : Int) : q50_0 Γ n1 x0 r1 x2 = bif x0 == 1 then q50_1 Γ n1 x0 (x0 == 1) x0 r1 x2 else q50_1 Γ n1 x0 (x0 == 2)
  x0 r1 x2 := (Jn_step ..).trans (by kernel_rfl)
theorem q54_0_eq (Γ : Bool → SemL) (n1 : Nat) (x0 : Int) (x1 : Int) (x2 : Int) (r3 : List (List D)) : q54_0 Γ n1 x0 x1 x2 r3 = l54_0 n1 Γ n1 x0 x1 0 x2 r3 := (Jn_step ..).trans (by
  kernel_rfl)
theorem q50_1_eq (Γ : Bool → SemL) (n1 : Nat) (x0 : Int) (b1 : Bool) (x2 : Int) (r3 : List (List D)) (x4 : Int) : q50_1 Γ n1 x0 b1 x2 r3 x4 = bif b1 then some (Out.mk true (V.one (X.d (D.bool
  (Int.ofNat (List.length r3) == 0)))) D.junk [] 0) else bif x0 == 3 then bif decide (Int.ofNat (List.length r3) < 2) then some (Out.mk true (V.one (X.d (D.bool false))) D.junk [] 0) else bif
  decide (Int.ofNat (List.length r3) > 4) then some (Out.mk true (V.one (X.d (D.bool false))) D.junk [] 0) else q50_2 Γ n1 x2 r3 x4 else bif x0 == 4 then bif Int.ofNat (List.length r3) != 1
  then some (Out.mk true (V.one (X.d (D.bool false))) D.junk [] 0) else q50_2 Γ n1 x2 r3 x4 else some (Out.mk true (V.one (X.d (D.bool false))) D.junk [] 0) := (Jn_step ..).trans (by
  kernel_rfl)
theorem l54_0_eq (n0 : Nat) (Γ : Bool → SemL) (n2 : Nat) (x0 : Int) (x1 : Int) (x2 : Int) (x3 : Int) (r4 : List (List D)) : l54_0 (n0 + 1) Γ n2 x0 x1 x2 x3 r4 = bif decide (x2 < x1) then
  q54_1 Γ n0 n2 x0 x1 x2 x3 r4 else q54_3 Γ n2 := (loop_step ..).trans (by kernel_rfl)
theorem q50_2_eq (Γ : Bool → SemL) (n1 : Nat) (x0 : Int) (r1 : List (List D)) (x2 : Int) : q50_2 Γ n1 x0 r1 x2 = r_oB_I (Γ false 86 [V.one (X.d (D.list 2 r1)), V.one (X.fn 87 [X.ptr 0 0])]
  [([Lf.int IntKind.i64], [X.d (D.int IntKind.i64 x2)])]) (fun c0_ i1_ => some (Out.mk true (V.one (X.d (D.bool !c0_))) D.junk [] 0)) fun d2_ i3_ => some (Out.mk false V.junk d2_ [] 0) :=
  (Jn_step ..).trans (by kernel_rfl)
theorem q54_1_eq (Γ : Bool → SemL) (n1 : Nat) (n2 : Nat) (x0 : Int) (x1 : Int) (x2 : Int) (x3 : Int) (r4 : List (List D)) : q54_1 Γ n1 n2 x0 x1 x2 x3 r4 = bif decide (0 ≤ x2) && decide (x2 <
  Int.ofNat (List.length r4)) then r_oB (Γ false 54 [V.agg [X.d (List.getD (List.getD r4 (Int.toNat x2) []) 0 D.junk), X.d (List.getD (List.getD r4 (Int.toNat x2) []) 1 D.junk)], V.one (X.d
  (D.int IntKind.i64 (IntKind.wrap IntKind.i64 (x0 + 1))))] []) (fun c0_ => bif !c0_ then some (Out.mk true (V.one (X.d (D.bool false))) D.junk [] 0) else q54_2 Γ n1 n2 x0 x1 x2 x3 r4) fun
  d1_ => some (Out.mk false V.junk d1_ [] 0) else none := (Jn_step ..).trans (by kernel_rfl)
theorem q54_3_eq (Γ : Bool → SemL) (n1 : Nat) : q54_3 Γ n1 = some (Out.mk true (V.one (X.d (D.bool true))) D.junk [] 0) := (Jn_step ..).trans (by kernel_rfl)
theorem e86f87_eq (Γ : Bool → SemL) (n1 : Nat) (r0 : List (List D)) (x1 : Int) : e86f87 Γ n1 r0 x1 = r_oI_I (Γ false 107 [V.one (X.d (D.list 2 r0)), V.one (X.fn 87 [X.ptr 0 0])] [([Lf.int
  IntKind.i64], [X.d (D.int IntKind.i64 x1)])]) (fun i0_ i1_ => some (Out.mk true (V.one (X.d (D.bool (decide (i0_ ≥ 0))))) D.junk [[X.d (D.int IntKind.i64 i1_)]] 0)) fun d2_ i3_ => some
  (Out.mk false V.junk d2_ [[X.d (D.int IntKind.i64 i3_)]] 0) := (run_step ..).trans (by kernel_rfl)
theorem q54_2_eq (Γ : Bool → SemL) (n1 : Nat) (n2 : Nat) (x0 : Int) (x1 : Int) (x2 : Int) (x3 : Int) (r4 : List (List D)) : q54_2 Γ n1 n2 x0 x1 x2 x3 r4 = l54_0 n1 Γ n2 x0 x1 (IntKind.wrap
  IntKind.i64 (x2 + 1)) x3 r4 := (Jn_step ..).trans (by kernel_rfl)
theorem e107f87_eq (Γ : Bool → SemL) (n1 : Nat) (r0 : List (List D)) (x1 : Int) : e107f87 Γ n1 r0 x1 = l107_0 n1 Γ n1 x1 r0 (Int.ofNat (List.length r0)) 0 x1 := (run_step ..).trans (by
  kernel_rfl)
theorem l107_0_eq (n0 : Nat) (Γ : Bool → SemL) (n2 : Nat) (z3 : Int) (r0 : List (List D)) (x1 : Int) (x2 : Int) (x3 : Int) : l107_0 (n0 + 1) Γ n2 z3 r0 x1 x2 x3 = bif decide (x2 < x1) then
  q107_0 Γ n0 n2 z3 r0 x1 x2 x3 else q107_2 Γ n2 z3 x3 := (loop_step ..).trans (by kernel_rfl)
theorem q107_0_eq (Γ : Bool → SemL) (n1 : Nat) (n2 : Nat) (z3 : Int) (r0 : List (List D)) (x1 : Int) (x2 : Int) (x3 : Int) : q107_0 Γ n1 n2 z3 r0 x1 x2 x3 = bif decide (0 ≤ x2) && decide (x2
  < Int.ofNat (List.length r0)) then r_oB_I (Γ false 87 [V.agg [X.d (List.getD (List.getD r0 (Int.toNat x2) []) 0 D.junk), X.d (List.getD (List.getD r0 (Int.toNat x2) []) 1 D.junk)], V.one
  (X.ptr 0 0)] [([Lf.int IntKind.i64], [X.d (D.int IntKind.i64 x3)])]) (fun c0_ i1_ => bif c0_ then some (Out.mk true (V.one (X.d (D.int IntKind.i64 x2))) D.junk [[X.d (D.int IntKind.i64
  i1_)]] 0) else q107_1 Γ n1 n2 z3 r0 x1 x2 i1_) fun d2_ i3_ => some (Out.mk false V.junk d2_ [[X.d (D.int IntKind.i64 i3_)]] 0) else none := (Jn_step ..).trans (by kernel_rfl)
theorem q107_2_eq (Γ : Bool → SemL) (n1 : Nat) (z2 : Int) (x0 : Int) : q107_2 Γ n1 z2 x0 = some (Out.mk true (V.one (X.d (D.int IntKind.i64 (-1)))) D.junk [[X.d (D.int IntKind.i64 x0)]] 0) :=
  (Jn_step ..).trans (by kernel_rfl)
theorem e87_eq (Γ : Bool → SemL) (n1 : Nat) (x0 : Int) (r1 : List (List D)) (x2 : Int) : e87 Γ n1 x0 r1 x2 = r_oB (Γ false 50 [V.agg [X.d (D.int IntKind.i64 x0), X.d (D.list 2 r1)], V.one
  (X.d (D.int IntKind.i64 (IntKind.wrap IntKind.i64 (x2 - 1))))] []) (fun c0_ => some (Out.mk true (V.one (X.d (D.bool !c0_))) D.junk [[X.d (D.int IntKind.i64 x2)]] 0)) fun d1_ => some
  (Out.mk false V.junk d1_ [[X.d (D.int IntKind.i64 x2)]] 0) := (run_step ..).trans (by kernel_rfl)
theorem q107_1_eq (Γ : Bool → SemL) (n1 : Nat) (n2 : Nat) (z3 : Int) (r0 : List (List D)) (x1 : Int) (x2 : Int) (x3 : Int) : q107_1 Γ n1 n2 z3 r0 x1 x2 x3 = l107_0 n1 Γ n2 z3 r0 x1
  (IntKind.wrap IntKind.i64 (x2 + 1)) x3 := (Jn_step ..).trans (by kernel_rfl)
theorem call28 (x0 : Int) (r1 : List (List D)) {o : Out} (h : Ev (fun _ k n => e28 (Ak k) n x0 r1) o) : Cal 28 [V.agg [X.d (D.int IntKind.i64 x0), X.d (D.list 2 r1)]] [] o := Ev.call (E :=
  fun Γ n1 => e28 Γ n1 x0 r1) (fun k => call_step (by kernel_rfl) rfl) h
theorem call31 (x0 : Int) (r1 : List (List D)) {o : Out} (h : Ev (fun _ k n => e31 (Ak k) n x0 r1) o) : Cal 31 [V.agg [X.d (D.int IntKind.i64 x0), X.d (D.list 2 r1)]] [] o := Ev.call (E :=
  fun Γ n1 => e31 Γ n1 x0 r1) (fun k => call_step (by kernel_rfl) rfl) h
theorem call50 (x0 : Int) (r1 : List (List D)) (x2 : Int) {o : Out} (h : Ev (fun _ k n => e50 (Ak k) n x0 r1 x2) o) : Cal 50 [V.agg [X.d (D.int IntKind.i64 x0), X.d (D.list 2 r1)], V.one (X.d
  (D.int IntKind.i64 x2))] [] o := Ev.call (E := fun Γ n1 => e50 Γ n1 x0 r1 x2) (fun k => call_step (by kernel_rfl) rfl) h
theorem call54 (x0 : Int) (r1 : List (List D)) (x2 : Int) {o : Out} (h : Ev (fun _ k n => e54 (Ak k) n x0 r1 x2) o) : Cal 54 [V.agg [X.d (D.int IntKind.i64 x0), X.d (D.list 2 r1)], V.one (X.d
  (D.int IntKind.i64 x2))] [] o := Ev.call (E := fun Γ n1 => e54 Γ n1 x0 r1 x2) (fun k => call_step (by kernel_rfl) rfl) h
theorem call86f87 (r0 : List (List D)) (x1 : Int) {o : Out} (h : Ev (fun _ k n => e86f87 (Ak k) n r0 x1) o) : Cal 86 [V.one (X.d (D.list 2 r0)), V.one (X.fn 87 [X.ptr 0 0])] [([Lf.int
  IntKind.i64], [X.d (D.int IntKind.i64 x1)])] o := Ev.call (E := fun Γ n1 => e86f87 Γ n1 r0 x1) (fun k => call_step (by kernel_rfl) rfl) h
theorem call107f87 (r0 : List (List D)) (x1 : Int) {o : Out} (h : Ev (fun _ k n => e107f87 (Ak k) n r0 x1) o) : Cal 107 [V.one (X.d (D.list 2 r0)), V.one (X.fn 87 [X.ptr 0 0])] [([Lf.int
  IntKind.i64], [X.d (D.int IntKind.i64 x1)])] o := Ev.call (E := fun Γ n1 => e107f87 Γ n1 r0 x1) (fun k => call_step (by kernel_rfl) rfl) h
theorem call87 (x0 : Int) (r1 : List (List D)) (x2 : Int) {o : Out} (h : Ev (fun _ k n => e87 (Ak k) n x0 r1 x2) o) : Cal 87 [V.agg [X.d (D.int IntKind.i64 x0), X.d (D.list 2 r1)], V.one
  (X.ptr 0 0)] [([Lf.int IntKind.i64], [X.d (D.int IntKind.i64 x2)])] o := Ev.call (E := fun Γ n1 => e87 Γ n1 x0 r1 x2) (fun k => call_step (by kernel_rfl) rfl) h
end Go.Proofs.YtaphnbaiamnfpaaDoor.Ps
