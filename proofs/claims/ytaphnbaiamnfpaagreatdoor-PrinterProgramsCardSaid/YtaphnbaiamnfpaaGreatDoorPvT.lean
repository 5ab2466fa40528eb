/- What the pieces of the functions do, as functions of their data. Printed by pack4.py. -/
import Derived.Test.YtaphnbaiamnfpaaGreatDoorPv0
namespace Go.Proofs.YtaphnbaiamnfpaaGreatDoor.Ps
set_option maxHeartbeats 0
set_option maxRecDepth 100000
set_option linter.unusedVariables false
open Go Go.RowKit
open Go.IntKind renaming i64 → iK, u8 → uK
open _root_.Int renaming ofNat → iO
open V renaming one → vo
open _root_.ByteArray renaming size → bz, mk → bm
open D renaming str → dS
noncomputable section
variable (n0 : Nat) (Γ : SM) (n1 n2 : Nat) (s0 : ByteArray) (x0 : Int) (b1 : Bool) (r1 : LL) (x1 x2 : Int)
def e62 := rF Γ 62 sf62 n1 [vo (zs s0), vo (zb b1)] []
def e97 := rF Γ 97 sf97 n1 [vo (X.d (D.int uK x0))] []
def e98 := rF Γ 98 sf98 n1 [vo (zs s0)] []
def q62_0 := jN Γ n1 j62_0 [(0, vo (zs s0))] [] [] 0 0 0 (fK Γ 62 sf62 0)
def e116 := rF Γ 116 sf116 n1 [] []
def l98_0 := lK Γ n0 [0, 3, 4] lb98_0 [(0, vo (zs s0)), (3, vo (zl 1 r1)), (4, vo (zi x2))] [] [] 0 0 0 (kBlk 0 (kSeq (some []) (jF Γ n2 j98_2) (fK Γ 98 sf98 0)))
def l62_0 := lK Γ n0 [0, 5] lb62_0 [(0, vo (zs s0)), (5, vo (zi x1))] [] [] 0 0 0 (kBlk 0 (kSeq (some []) (jF Γ n2 j62_3) (fK Γ 62 sf62 0)))
def q98_0 := jN Γ n1 j98_0 [(0, vo (zs s0)), (3, vo (zl 1 r1)), (4, vo (zi x2))] [] [] 0 0 0 (kL Γ n1 [0, 3, 4] lb98_0 (kBlk 0 (kSeq (some []) (jF Γ n2 j98_2) (fK Γ 98 sf98 0))))
def q98_2 := jN Γ n1 j98_2 [] [] [] 0 0 0 (fK Γ 98 sf98 0)
def q62_1 := jN Γ n1 j62_1 [(0, vo (zs s0)), (5, vo (zi x1))] [] [] 0 0 0 (kL Γ n1 [0, 5] lb62_0 (kBlk 0 (kSeq (some []) (jF Γ n2 j62_3) (fK Γ 62 sf62 0))))
def q62_3 := jN Γ n1 j62_3 [] [] [] 0 0 0 (fK Γ 62 sf62 0)
def q98_1 := jN Γ n1 j98_1 [(0, vo (zs s0)), (3, vo (zl 1 r1)), (4, vo (zi x2))] [] [] 0 0 0 (kL Γ n1 [0, 3, 4] lb98_0 (kBlk 0 (kSeq (some []) (jF Γ n2 j98_2) (fK Γ 98 sf98 0))))
def e99 := rF Γ 99 sf99 n1 [vo (X.d (D.int uK x0))] []
def q62_2 := jN Γ n1 j62_2 [(0, vo (zs s0)), (5, vo (zi x1))] [] [] 0 0 0 (kL Γ n1 [0, 5] lb62_0 (kBlk 0 (kSeq (some []) (jF Γ n2 j62_3) (fK Γ 62 sf62 0))))
theorem e62_eq : e62 Γ n1 s0 b1 = bif beqL (Array.toList (ByteArray.data s0)) (Array.toList (ByteArray.data (bm #[]))) then oR (vo (zb false)) else bif true && decide (0 < iO (bz s0)) then r_oB (Γ false 97 [vo (X.d (D.int uK (iO (UInt8.toNat (ByteArray.get! s0 0)))))] []) (fun c0_ => bif !c0_ then oR (vo (zb false)) else r_oB (Γ false 98 [vo (zs s0)] []) (fun c2_ => bif c2_ then oR (vo (zb false)) else bif !b1 then bif decide (iO (bz s0) > 24) then oR (vo (zb false)) else q62_0 Γ n1 s0 else q62_0 Γ n1 s0) h0) h0 else none := (run_step ..).trans (by kernel_rfl)
theorem e97_eq : e97 Γ n1 x0 = bif decide (x0 ≥ 97) then oR (vo (zb (decide (x0 ≤ 122)))) else oR (vo (zb false)) := (run_step ..).trans (by kernel_rfl)
theorem e98_eq : e98 Γ n1 s0 = r_oL1 (Γ false 116 [] []) (fun w0_ => l98_0 n1 Γ n1 s0 w0_ 0) h0 := (run_step ..).trans (by kernel_rfl)
theorem q62_0_eq : q62_0 Γ n1 s0 = l62_0 n1 Γ n1 s0 0 := (Jn_step ..).trans (by kernel_rfl)
theorem e116_eq : e116 Γ n1 = oR (vo (X.d (D.list 1 [[dS (bm #[97, 110, 100])], [dS (bm #[98, 111, 111, 108])], [dS (bm #[99, 97, 115, 101])], [dS (bm #[101, 108, 115, 101])], [dS (bm #[102, 97, 108, 115, 101])], [dS (bm #[102, 108, 105, 112])], [dS (bm #[102, 117, 110])], [dS (bm #[105, 102])], [dS (bm #[105, 110])], [dS (bm #[105, 110, 112, 117, 116])], [dS (bm #[105, 110, 116])], [dS (bm #[108, 101, 116])], [dS (bm #[110, 111, 116])], [dS (bm #[111, 98, 115, 101, 114, 118, 101])], [dS (bm #[111, 102])], [dS (bm #[111, 114])], [dS (bm #[112, 105, 99, 107])], [dS (bm #[114, 97, 110, 103, 101])], [dS (bm #[115, 99, 111, 114, 101])], [dS (bm #[116, 104, 101, 110])], [dS (bm #[116, 114, 117, 101])]]))) := (run_step ..).trans (by kernel_rfl)
theorem l98_0_eq : l98_0 (n0 + 1) Γ n2 s0 r1 x2 = bif decide (x2 < iO (List.length r1)) then q98_0 Γ n0 n2 s0 r1 x2 else q98_2 Γ n2 := (loop_step ..).trans (by kernel_rfl)
theorem l62_0_eq : l62_0 (n0 + 1) Γ n2 s0 x1 = bif decide (x1 < iO (bz s0)) then q62_1 Γ n0 n2 s0 x1 else q62_3 Γ n2 := (loop_step ..).trans (by kernel_rfl)
theorem q98_0_eq : q98_0 Γ n1 n2 s0 r1 x2 = bif decide (0 ≤ x2) && decide (x2 < iO (List.length r1)) then bif D.isStr (List.getD (List.getD r1 (Int.toNat x2) []) 0 D.junk) then bif beqL (Array.toList (ByteArray.data (D.bytes (List.getD (List.getD r1 (Int.toNat x2) []) 0 D.junk)))) (Array.toList (ByteArray.data s0)) then oR (vo (zb true)) else q98_1 Γ n1 n2 s0 r1 x2 else none else none := (Jn_step ..).trans (by kernel_rfl)
theorem q98_2_eq : q98_2 Γ n1 = oR (vo (zb false)) := (Jn_step ..).trans (by kernel_rfl)
theorem q62_1_eq : q62_1 Γ n1 n2 s0 x1 = bif decide (0 ≤ x1) && decide (x1 < iO (bz s0)) then r_oB (Γ false 97 [vo (X.d (D.int uK (iO (UInt8.toNat (ByteArray.get! s0 (Int.toNat x1))))))] []) (fun c0_ => bif !c0_ then bif decide (0 ≤ x1) && decide (x1 < iO (bz s0)) then r_oB (Γ false 99 [vo (X.d (D.int uK (iO (UInt8.toNat (ByteArray.get! s0 (Int.toNat x1))))))] []) (fun c2_ => bif !c2_ then bif decide (0 ≤ x1) && decide (x1 < iO (bz s0)) then bif iO (UInt8.toNat (ByteArray.get! s0 (Int.toNat x1))) != 95 then oR (vo (zb false)) else q62_2 Γ n1 n2 s0 x1 else none else q62_2 Γ n1 n2 s0 x1) h0 else none else q62_2 Γ n1 n2 s0 x1) h0 else none := (Jn_step ..).trans (by kernel_rfl)
theorem q62_3_eq : q62_3 Γ n1 = oR (vo (zb true)) := (Jn_step ..).trans (by kernel_rfl)
theorem q98_1_eq : q98_1 Γ n1 n2 s0 r1 x2 = l98_0 n1 Γ n2 s0 r1 (IntKind.wrap iK (x2 + 1)) := (Jn_step ..).trans (by kernel_rfl)
theorem e99_eq : e99 Γ n1 x0 = bif decide (x0 ≥ 48) then oR (vo (zb (decide (x0 ≤ 57)))) else oR (vo (zb false)) := (run_step ..).trans (by kernel_rfl)
theorem q62_2_eq : q62_2 Γ n1 n2 s0 x1 = l62_0 n1 Γ n2 s0 (IntKind.wrap iK (x1 + 1)) := (Jn_step ..).trans (by kernel_rfl)
theorem call62 {o : Out} (h : Ev (fun _ k n => e62 (Ak k) n s0 b1) o) : Cal 62 [vo (zs s0), vo (zb b1)] [] o := Ev.call (E := fun Γ n1 => e62 Γ n1 s0 b1) (fun k => call_step (by kernel_rfl) rfl) h
theorem call97 {o : Out} (h : Ev (fun _ k n => e97 (Ak k) n x0) o) : Cal 97 [vo (X.d (D.int uK x0))] [] o := Ev.call (E := fun Γ n1 => e97 Γ n1 x0) (fun k => call_step (by kernel_rfl) rfl) h
theorem call98 {o : Out} (h : Ev (fun _ k n => e98 (Ak k) n s0) o) : Cal 98 [vo (zs s0)] [] o := Ev.call (E := fun Γ n1 => e98 Γ n1 s0) (fun k => call_step (by kernel_rfl) rfl) h
theorem call116 {o : Out} (h : Ev (fun _ k n => e116 (Ak k) n ) o) : Cal 116 [] [] o := Ev.call (E := fun Γ n1 => e116 Γ n1 ) (fun k => call_step (by kernel_rfl) rfl) h
theorem call99 {o : Out} (h : Ev (fun _ k n => e99 (Ak k) n x0) o) : Cal 99 [vo (X.d (D.int uK x0))] [] o := Ev.call (E := fun Γ n1 => e99 Γ n1 x0) (fun k => call_step (by kernel_rfl) rfl) h
end
end Go.Proofs.YtaphnbaiamnfpaaGreatDoor.Ps
