/- What the pieces of the functions do, as functions of their data. Printed by pack4.py. -/
import Derived.Test.YtaphnbaiamnfpaaGreatDoorPv0
namespace Go.Proofs.YtaphnbaiamnfpaaGreatDoor.Ps
set_option maxHeartbeats 0
set_option maxRecDepth 100000
set_option linter.unusedVariables false
open Go Go.RowKit
open Go.IntKind renaming i64 → iK, u8 → uK
open _root_.List renaming getD → lG, length → lN
open _root_.Int renaming ofNat → iO
open V renaming one → vo
open Lf renaming int → fi
open _root_.ByteArray renaming size → bz, mk → bm
noncomputable section
variable (n0 : Nat) (Γ : SM) (n1 n2 : Nat) (z2 z3 x0 : Int) (r0 r1 : LL) (x1 : Int) (b1 : Bool) (x2 : Int) (r2 : LL) (x3 : Int) (r3 r4 : LL) (x4 : Int) (r5 : LL)
def e23 := rF Γ 23 sf23 n1 [wg0 x0 r1] []
def e36 := rF Γ 36 sf36 n1 [wg0 x0 r1] []
def l23_0 := lK Γ n0 [1, 3, 8, 9, 10] lb23_0 [(1, zP), (3, vo (X.nilL 1)), (8, vo (zl 2 r0)), (9, vo (zi x1)), (10, vo (zi x2))] [(0, wm2 x3 r4)] [] 1 0 0 (kBlk 0 (kSeq (some [1, 3]) (jF Γ n2 j23_2) (fK Γ 23 sf23 0)))
def e63 := rF Γ 63 sf63 n1 [wg0 x0 r1] []
def e82 := rF Γ 82 sf82 n1 [wg0 x0 r1, vo (zi x2)] []
def q23_0 := jN Γ n1 j23_0 [(1, zP), (3, vo (X.nilL 1)), (8, vo (zl 2 r0)), (9, vo (zi x1)), (10, vo (zi x2))] [(0, wm2 x3 r4)] [] 1 0 0 (kL Γ n1 [1, 3, 8, 9, 10] lb23_0 (kBlk 0 (kSeq (some [1, 3]) (jF Γ n2 j23_2) (fK Γ 23 sf23 0))))
def q23_2 := jN Γ n1 j23_2 [(1, zP), (3, vo (X.nilL 1))] [(0, wm2 x0 r1)] [] 1 0 0 (fK Γ 23 sf23 0)
def e100 := rF Γ 100 sf100 n1 [wg0 x0 r1, vo (zi x2)] []
def q82_0 := jN Γ n1 j82_0 [(2, zP), (3, vo (X.ptr 1 0))] [(0, wm2 x0 r1), (1, Blk.mk [fi iK] [zi x2])] [] 2 0 0 (fK Γ 82 sf82 0)
def q23_1 := jN Γ n1 j23_1 [(1, zP), (3, vo (X.own 0 9 1 r0)), (8, vo (zl 2 r1)), (9, vo (zi x2)), (10, vo (zi x3))] [(0, wm2 x4 r5)] [0] 1 1 0 (kL Γ n1 [1, 3, 8, 9, 10] lb23_0 (kBlk 0 (kSeq (some [1, 3]) (jF Γ n2 j23_2) (fK Γ 23 sf23 0))))
def q23_3 := jN Γ n1 j23_3 [] [] [] 0 0 0 (fK Γ 23 sf23 0)
def q100_0 := jN Γ n1 j100_0 [(1, vo (zi x0)), (2, zP), (5, vo (zi x1))] [(0, wm2 x2 r3)] [] 1 0 0 (fK Γ 100 sf100 0)
def q82_1 := jN Γ n1 j82_1 [(2, zP), (3, vo (X.ptr 1 0)), (8, vo (zi x0)), (9, vo (zb b1))] [(0, wm2 x2 r3), (1, Blk.mk [fi iK] [zi x4])] [] 2 0 0 (kBlk 0 (kSeq (some [2, 3]) (jF Γ n1 j82_2) (fK Γ 82 sf82 0)))
def l23_0_v1 := lK Γ n0 [1, 3, 8, 9, 10] lb23_0 [(1, zP), (3, vo (X.own 0 9 1 r0)), (8, vo (zl 2 r1)), (9, vo (zi x2)), (10, vo (zi x3))] [(0, wm2 x4 r5)] [0] 1 1 0 (kBlk 0 (kSeq (some [1, 3]) (jF Γ n2 j23_2) (fK Γ 23 sf23 0)))
def l100_0 := lK Γ n0 [1, 2, 5, 7] lb100_0 [(1, vo (zi x0)), (2, zP), (5, vo (zi x1)), (7, vo (zi x2))] [(0, wm2 x3 r4)] [] 1 0 0 (kBlk 0 (kSeq (some []) (jF Γ n2 j100_3) (fK Γ 100 sf100 0)))
def q82_2 := jN Γ n1 j82_2 [(2, zP), (3, vo (X.ptr 1 0))] [(0, wm2 x0 r1), (1, Blk.mk [fi iK] [zi x2])] [] 2 0 0 (fK Γ 82 sf82 0)
def q23_0_v1 := jN Γ n1 j23_0 [(1, zP), (3, vo (X.own 0 9 1 r0)), (8, vo (zl 2 r1)), (9, vo (zi x2)), (10, vo (zi x3))] [(0, wm2 x4 r5)] [0] 1 1 0 (kL Γ n1 [1, 3, 8, 9, 10] lb23_0 (kBlk 0 (kSeq (some [1, 3]) (jF Γ n2 j23_2) (fK Γ 23 sf23 0))))
def q23_2_v1 := jN Γ n1 j23_2 [(1, zP), (3, vo (X.own 0 9 1 r0))] [(0, wm2 x1 r2)] [0] 1 1 0 (fK Γ 23 sf23 0)
def q100_1 := jN Γ n1 j100_1 [(1, vo (zi x0)), (2, zP), (5, vo (zi x1)), (7, vo (zi x2))] [(0, wm2 x3 r4)] [] 1 0 0 (kL Γ n1 [1, 2, 5, 7] lb100_0 (kBlk 0 (kSeq (some []) (jF Γ n2 j100_3) (fK Γ 100 sf100 0))))
def q100_3 := jN Γ n1 j100_3 [] [] [] 0 0 0 (fK Γ 100 sf100 0)
def e108f109 := rF Γ 108 sf108 n1 [vo (zl 2 r0), vo (X.fn 109 [X.ptr 0 0])] [([fi iK], [zi x1])]
def q100_2 := jN Γ n1 j100_2 [(1, vo (zi x0)), (2, zP), (5, vo (zi x1)), (7, vo (zi x2))] [(0, wm2 x3 r4)] [] 1 0 0 (kL Γ n1 [1, 2, 5, 7] lb100_0 (kBlk 0 (kSeq (some []) (jF Γ n2 j100_3) (fK Γ 100 sf100 0))))
def e124f109 := rF Γ 124 sf124 n1 [vo (zl 2 r0), vo (X.fn 109 [X.ptr 0 0])] [([fi iK], [zi x1])]
def l124_0 := lK Γ n0 [0, 1, 7, 8] lb124_0 [(0, vo (zl 2 r0)), (1, vo (X.fn 109 [X.ptr 0 0])), (7, vo (zi x1)), (8, vo (zi x2))] [(0, Blk.mk [fi iK] [zi x3])] [] 1 0 1 (kBlk 0 (kSeq (some []) (jF Γ n2 j124_2) (finK (Γ true) rc false (shp 124) (SFunc.results sf124) (lN [([fi iK], [zi z3])]))))
def q124_0 := jN Γ n1 j124_0 [(0, vo (zl 2 r0)), (1, vo (X.fn 109 [X.ptr 0 0])), (7, vo (zi x1)), (8, vo (zi x2))] [(0, Blk.mk [fi iK] [zi x3])] [] 1 0 1 (kL Γ n1 [0, 1, 7, 8] lb124_0 (kBlk 0 (kSeq (some []) (jF Γ n2 j124_2) (finK (Γ true) rc false (shp 124) (SFunc.results sf124) (lN [([fi iK], [zi z3])])))))
def q124_2 := jN Γ n1 j124_2 [] [(0, Blk.mk [fi iK] [zi x0])] [] 1 0 1 (finK (Γ true) rc false (shp 124) (SFunc.results sf124) (lN [([fi iK], [zi z2])]))
def e109 := rF Γ 109 sf109 n1 [wg0 x0 r1, zP] [([fi iK], [zi x2])]
def q124_1 := jN Γ n1 j124_1 [(0, vo (zl 2 r0)), (1, vo (X.fn 109 [X.ptr 0 0])), (7, vo (zi x1)), (8, vo (zi x2))] [(0, Blk.mk [fi iK] [zi x3])] [] 1 0 1 (kL Γ n1 [0, 1, 7, 8] lb124_0 (kBlk 0 (kSeq (some []) (jF Γ n2 j124_2) (finK (Γ true) rc false (shp 124) (SFunc.results sf124) (lN [([fi iK], [zi z3])])))))
theorem e23_eq : e23 Γ n1 x0 r1 = l23_0 n1 Γ n1 r1 (iO (lN r1)) 0 x0 r1 := (run_step ..).trans (by kernel_rfl)
theorem e36_eq : e36 Γ n1 x0 r1 = r_oB (Γ false 82 [wg0 x0 r1, vo (zi 40)] []) (fun c0_ => oR (vo (zb c0_))) h0 := (run_step ..).trans (by kernel_rfl)
theorem l23_0_eq : l23_0 (n0 + 1) Γ n2 r0 x1 x2 x3 r4 = bif decide (x2 < x1) then q23_0 Γ n0 n2 r0 x1 x2 x3 r4 else q23_2 Γ n2 x3 r4 := (loop_step ..).trans (by kernel_rfl)
theorem e63_eq : e63 Γ n1 x0 r1 = r_oB (Γ false 100 [wg0 x0 r1, vo (zi 1)] []) (fun c0_ => oR (vo (zb c0_))) h0 := (run_step ..).trans (by kernel_rfl)
theorem e82_eq : e82 Γ n1 x0 r1 x2 = bif decide (x2 < 1) then oR (vo (zb false)) else q82_0 Γ n1 x0 r1 x2 := (run_step ..).trans (by kernel_rfl)
theorem q23_0_eq : q23_0 Γ n1 n2 r0 x1 x2 x3 r4 = bif decide (0 ≤ x2) && decide (x2 < iO (lN r0)) then r_oS (Γ false 23 [V.agg [X.d (lG (lG r0 (Int.toNat x2) []) 0 D.junk), X.d (lG (lG r0 (Int.toNat x2) []) 1 D.junk)]] []) (fun u0_ => q23_1 Γ n1 n2 [[D.str u0_]] r0 x1 x2 x3 r4) h0 else none := (Jn_step ..).trans (by kernel_rfl)
theorem q23_2_eq : q23_2 Γ n1 x0 r1 = r_oS (Γ false 54 [vo (X.nilL 1), vo (zs (bm #[44, 32]))] []) (fun u0_ => bif x0 == 1 then oR (vo (zs (bm #[98, 111, 111, 108]))) else bif x0 == 2 then oR (vo (zs (bm #[105, 110, 116]))) else bif x0 == 3 then bif Nat.ble (1 + bz u0_) 9223372036854775807 then bif Nat.ble (bz (bm #[40] ++ u0_) + 1) 9223372036854775807 then oR (vo (zs (bm #[40] ++ u0_ ++ bm #[41]))) else none else none else bif x0 == 4 then bif Nat.ble (1 + bz u0_) 9223372036854775807 then bif Nat.ble (bz (bm #[91] ++ u0_) + 1) 9223372036854775807 then oR (vo (zs (bm #[91] ++ u0_ ++ bm #[93]))) else none else none else q23_3 Γ n1) h0 := (Jn_step ..).trans (by kernel_rfl)
theorem e100_eq : e100 Γ n1 x0 r1 x2 = bif x0 == 1 then bif iO (lN r1) == 0 then bif decide (x2 > 40) then oR (vo (zb false)) else q100_0 Γ n1 x2 (iO (lN r1)) x0 r1 else bif x0 == 3 then bif decide (iO (lN r1) ≥ 2) then bif decide (iO (lN r1) ≤ 4) then bif decide (x2 > 40) then oR (vo (zb false)) else q100_0 Γ n1 x2 (iO (lN r1)) x0 r1 else bif x0 == 4 then bif !iO (lN r1) == 1 then oR (vo (zb false)) else bif decide (x2 > 40) then oR (vo (zb false)) else q100_0 Γ n1 x2 (iO (lN r1)) x0 r1 else oR (vo (zb false)) else bif x0 == 4 then bif !iO (lN r1) == 1 then oR (vo (zb false)) else bif decide (x2 > 40) then oR (vo (zb false)) else q100_0 Γ n1 x2 (iO (lN r1)) x0 r1 else oR (vo (zb false)) else bif x0 == 4 then bif !iO (lN r1) == 1 then oR (vo (zb false)) else bif decide (x2 > 40) then oR (vo (zb false)) else q100_0 Γ n1 x2 (iO (lN r1)) x0 r1 else oR (vo (zb false)) else bif x0 == 2 then bif iO (lN r1) == 0 then bif decide (x2 > 40) then oR (vo (zb false)) else q100_0 Γ n1 x2 (iO (lN r1)) x0 r1 else bif x0 == 3 then bif decide (iO (lN r1) ≥ 2) then bif decide (iO (lN r1) ≤ 4) then bif decide (x2 > 40) then oR (vo (zb false)) else q100_0 Γ n1 x2 (iO (lN r1)) x0 r1 else bif x0 == 4 then bif !iO (lN r1) == 1 then oR (vo (zb false)) else bif decide (x2 > 40) then oR (vo (zb false)) else q100_0 Γ n1 x2 (iO (lN r1)) x0 r1 else oR (vo (zb false)) else bif x0 == 4 then bif !iO (lN r1) == 1 then oR (vo (zb false)) else bif decide (x2 > 40) then oR (vo (zb false)) else q100_0 Γ n1 x2 (iO (lN r1)) x0 r1 else oR (vo (zb false)) else bif x0 == 4 then bif !iO (lN r1) == 1 then oR (vo (zb false)) else bif decide (x2 > 40) then oR (vo (zb false)) else q100_0 Γ n1 x2 (iO (lN r1)) x0 r1 else oR (vo (zb false)) else bif x0 == 3 then bif decide (iO (lN r1) ≥ 2) then bif decide (iO (lN r1) ≤ 4) then bif decide (x2 > 40) then oR (vo (zb false)) else q100_0 Γ n1 x2 (iO (lN r1)) x0 r1 else bif x0 == 4 then bif !iO (lN r1) == 1 then oR (vo (zb false)) else bif decide (x2 > 40) then oR (vo (zb false)) else q100_0 Γ n1 x2 (iO (lN r1)) x0 r1 else oR (vo (zb false)) else bif x0 == 4 then bif !iO (lN r1) == 1 then oR (vo (zb false)) else bif decide (x2 > 40) then oR (vo (zb false)) else q100_0 Γ n1 x2 (iO (lN r1)) x0 r1 else oR (vo (zb false)) else bif x0 == 4 then bif !iO (lN r1) == 1 then oR (vo (zb false)) else bif decide (x2 > 40) then oR (vo (zb false)) else q100_0 Γ n1 x2 (iO (lN r1)) x0 r1 else oR (vo (zb false)) := (run_step ..).trans (by kernel_rfl)
theorem q82_0_eq : q82_0 Γ n1 x0 r1 x2 = bif x0 == 1 then q82_1 Γ n1 x0 (x0 == 1) x0 r1 x2 else q82_1 Γ n1 x0 (x0 == 2) x0 r1 x2 := (Jn_step ..).trans (by kernel_rfl)
theorem q23_1_eq : q23_1 Γ n1 n2 r0 r1 x2 x3 x4 r5 = l23_0_v1 n1 Γ n2 r0 r1 x2 (IntKind.wrap iK (x3 + 1)) x4 r5 := (Jn_step ..).trans (by kernel_rfl)
theorem q100_0_eq : q100_0 Γ n1 x0 x1 x2 r3 = l100_0 n1 Γ n1 x0 x1 0 x2 r3 := (Jn_step ..).trans (by kernel_rfl)
theorem q82_1_eq : q82_1 Γ n1 x0 b1 x2 r3 x4 = bif b1 then oR (vo (zb (iO (lN r3) == 0))) else bif x0 == 3 then bif decide (iO (lN r3) < 2) then oR (vo (zb false)) else bif decide (iO (lN r3) > 4) then oR (vo (zb false)) else q82_2 Γ n1 x2 r3 x4 else bif x0 == 4 then bif iO (lN r3) != 1 then oR (vo (zb false)) else q82_2 Γ n1 x2 r3 x4 else oR (vo (zb false)) := (Jn_step ..).trans (by kernel_rfl)
theorem l23_0_v1_eq : l23_0_v1 (n0 + 1) Γ n2 r0 r1 x2 x3 x4 r5 = bif decide (x3 < x2) then q23_0_v1 Γ n0 n2 r0 r1 x2 x3 x4 r5 else q23_2_v1 Γ n2 r0 x4 r5 := (loop_step ..).trans (by kernel_rfl)
theorem l100_0_eq : l100_0 (n0 + 1) Γ n2 x0 x1 x2 x3 r4 = bif decide (x2 < x1) then q100_1 Γ n0 n2 x0 x1 x2 x3 r4 else q100_3 Γ n2 := (loop_step ..).trans (by kernel_rfl)
theorem q82_2_eq : q82_2 Γ n1 x0 r1 x2 = r_oB_I (Γ false 108 [vo (zl 2 r1), vo (X.fn 109 [X.ptr 0 0])] [([fi iK], [zi x2])]) (fun c0_ i1_ => oR (vo (zb !c0_))) fun d2_ i3_ => some (Out.mk false V.junk d2_ [] 0) := (Jn_step ..).trans (by kernel_rfl)
theorem q23_0_v1_eq : q23_0_v1 Γ n1 n2 r0 r1 x2 x3 x4 r5 = bif decide (0 ≤ x3) && decide (x3 < iO (lN r1)) then r_oS (Γ false 23 [V.agg [X.d (lG (lG r1 (Int.toNat x3) []) 0 D.junk), X.d (lG (lG r1 (Int.toNat x3) []) 1 D.junk)]] []) (fun u0_ => bif true && true && true && Nat.ble ((lN r0 + lN [[D.str u0_]]) * 17) 140737488355328 then q23_1 Γ n1 n2 (r0 ++ [[D.str u0_]]) r1 x2 x3 x4 r5 else none) h0 else none := (Jn_step ..).trans (by kernel_rfl)
theorem q23_2_v1_eq : q23_2_v1 Γ n1 r0 x1 r2 = r_oS (Γ false 54 [vo (zl 1 r0), vo (zs (bm #[44, 32]))] []) (fun u0_ => bif x1 == 1 then oR (vo (zs (bm #[98, 111, 111, 108]))) else bif x1 == 2 then oR (vo (zs (bm #[105, 110, 116]))) else bif x1 == 3 then bif Nat.ble (1 + bz u0_) 9223372036854775807 then bif Nat.ble (bz (bm #[40] ++ u0_) + 1) 9223372036854775807 then oR (vo (zs (bm #[40] ++ u0_ ++ bm #[41]))) else none else none else bif x1 == 4 then bif Nat.ble (1 + bz u0_) 9223372036854775807 then bif Nat.ble (bz (bm #[91] ++ u0_) + 1) 9223372036854775807 then oR (vo (zs (bm #[91] ++ u0_ ++ bm #[93]))) else none else none else q23_3 Γ n1) h0 := (Jn_step ..).trans (by kernel_rfl)
theorem q100_1_eq : q100_1 Γ n1 n2 x0 x1 x2 x3 r4 = bif decide (0 ≤ x2) && decide (x2 < iO (lN r4)) then r_oB (Γ false 100 [V.agg [X.d (lG (lG r4 (Int.toNat x2) []) 0 D.junk), X.d (lG (lG r4 (Int.toNat x2) []) 1 D.junk)], vo (zi (IntKind.wrap iK (x0 + 1)))] []) (fun c0_ => bif !c0_ then oR (vo (zb false)) else q100_2 Γ n1 n2 x0 x1 x2 x3 r4) h0 else none := (Jn_step ..).trans (by kernel_rfl)
theorem q100_3_eq : q100_3 Γ n1 = oR (vo (zb true)) := (Jn_step ..).trans (by kernel_rfl)
theorem e108f109_eq : e108f109 Γ n1 r0 x1 = r_oI_I (Γ false 124 [vo (zl 2 r0), vo (X.fn 109 [X.ptr 0 0])] [([fi iK], [zi x1])]) (fun i0_ i1_ => oS (vo (zb (decide (i0_ ≥ 0)))) [[zi i1_]]) fun d2_ i3_ => some (Out.mk false V.junk d2_ [[zi i3_]] 0) := (run_step ..).trans (by kernel_rfl)
theorem q100_2_eq : q100_2 Γ n1 n2 x0 x1 x2 x3 r4 = l100_0 n1 Γ n2 x0 x1 (IntKind.wrap iK (x2 + 1)) x3 r4 := (Jn_step ..).trans (by kernel_rfl)
theorem e124f109_eq : e124f109 Γ n1 r0 x1 = l124_0 n1 Γ n1 x1 r0 (iO (lN r0)) 0 x1 := (run_step ..).trans (by kernel_rfl)
theorem l124_0_eq : l124_0 (n0 + 1) Γ n2 z3 r0 x1 x2 x3 = bif decide (x2 < x1) then q124_0 Γ n0 n2 z3 r0 x1 x2 x3 else q124_2 Γ n2 z3 x3 := (loop_step ..).trans (by kernel_rfl)
theorem q124_0_eq : q124_0 Γ n1 n2 z3 r0 x1 x2 x3 = bif decide (0 ≤ x2) && decide (x2 < iO (lN r0)) then r_oB_I (Γ false 109 [V.agg [X.d (lG (lG r0 (Int.toNat x2) []) 0 D.junk), X.d (lG (lG r0 (Int.toNat x2) []) 1 D.junk)], zP] [([fi iK], [zi x3])]) (fun c0_ i1_ => bif c0_ then oS (vo (zi x2)) [[zi i1_]] else q124_1 Γ n1 n2 z3 r0 x1 x2 i1_) fun d2_ i3_ => some (Out.mk false V.junk d2_ [[zi i3_]] 0) else none := (Jn_step ..).trans (by kernel_rfl)
theorem q124_2_eq : q124_2 Γ n1 z2 x0 = oS (vo (zi (-1))) [[zi x0]] := (Jn_step ..).trans (by kernel_rfl)
theorem e109_eq : e109 Γ n1 x0 r1 x2 = r_oB (Γ false 82 [wg0 x0 r1, vo (zi (IntKind.wrap iK (x2 - 1)))] []) (fun c0_ => oS (vo (zb !c0_)) [[zi x2]]) fun d1_ => some (Out.mk false V.junk d1_ [[zi x2]] 0) := (run_step ..).trans (by kernel_rfl)
theorem q124_1_eq : q124_1 Γ n1 n2 z3 r0 x1 x2 x3 = l124_0 n1 Γ n2 z3 r0 x1 (IntKind.wrap iK (x2 + 1)) x3 := (Jn_step ..).trans (by kernel_rfl)
theorem call23 {o : Out} (h : Ev (fun _ k n => e23 (Ak k) n x0 r1) o) : Cal 23 [wg0 x0 r1] [] o := Ev.call (E := fun Γ n1 => e23 Γ n1 x0 r1) (fun k => call_step (by kernel_rfl) rfl) h
theorem call36 {o : Out} (h : Ev (fun _ k n => e36 (Ak k) n x0 r1) o) : Cal 36 [wg0 x0 r1] [] o := Ev.call (E := fun Γ n1 => e36 Γ n1 x0 r1) (fun k => call_step (by kernel_rfl) rfl) h
theorem call63 {o : Out} (h : Ev (fun _ k n => e63 (Ak k) n x0 r1) o) : Cal 63 [wg0 x0 r1] [] o := Ev.call (E := fun Γ n1 => e63 Γ n1 x0 r1) (fun k => call_step (by kernel_rfl) rfl) h
theorem call82 {o : Out} (h : Ev (fun _ k n => e82 (Ak k) n x0 r1 x2) o) : Cal 82 [wg0 x0 r1, vo (zi x2)] [] o := Ev.call (E := fun Γ n1 => e82 Γ n1 x0 r1 x2) (fun k => call_step (by kernel_rfl) rfl) h
theorem call100 {o : Out} (h : Ev (fun _ k n => e100 (Ak k) n x0 r1 x2) o) : Cal 100 [wg0 x0 r1, vo (zi x2)] [] o := Ev.call (E := fun Γ n1 => e100 Γ n1 x0 r1 x2) (fun k => call_step (by kernel_rfl) rfl) h
theorem call108f109 {o : Out} (h : Ev (fun _ k n => e108f109 (Ak k) n r0 x1) o) : Cal 108 [vo (zl 2 r0), vo (X.fn 109 [X.ptr 0 0])] [([fi iK], [zi x1])] o := Ev.call (E := fun Γ n1 => e108f109 Γ n1 r0 x1) (fun k => call_step (by kernel_rfl) rfl) h
theorem call124f109 {o : Out} (h : Ev (fun _ k n => e124f109 (Ak k) n r0 x1) o) : Cal 124 [vo (zl 2 r0), vo (X.fn 109 [X.ptr 0 0])] [([fi iK], [zi x1])] o := Ev.call (E := fun Γ n1 => e124f109 Γ n1 r0 x1) (fun k => call_step (by kernel_rfl) rfl) h
theorem call109 {o : Out} (h : Ev (fun _ k n => e109 (Ak k) n x0 r1 x2) o) : Cal 109 [wg0 x0 r1, zP] [([fi iK], [zi x2])] o := Ev.call (E := fun Γ n1 => e109 Γ n1 x0 r1 x2) (fun k => call_step (by kernel_rfl) rfl) h
end
end Go.Proofs.YtaphnbaiamnfpaaGreatDoor.Ps
