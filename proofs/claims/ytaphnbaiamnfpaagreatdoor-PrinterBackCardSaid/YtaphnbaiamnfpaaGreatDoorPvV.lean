/- What the pieces of the functions do, as functions of their data. Printed by pack4.py. -/
import Derived.Test.YtaphnbaiamnfpaaGreatDoorPv0
namespace Go.Proofs.YtaphnbaiamnfpaaGreatDoor.Ps
set_option maxHeartbeats 0
set_option maxRecDepth 100000
set_option linter.unusedVariables false
open Go Go.RowKit
open Go.IntKind renaming i64 -> iK, u8 -> uK
open _root_.List renaming getD -> lG, length -> lN
open _root_.Int renaming ofNat -> iO
open V renaming one -> vo
open Lf renaming int -> fi
open _root_.ByteArray renaming size -> bz, mk -> bm
noncomputable section
variable (n0:Nat) (Γ:SM) (n1 n2:Nat) (z2 z3 x0:Int) (r0 r1:LL) (x1:Int) (b1:Bool) (x2:Int) (r2:LL) (x3:Int) (r3 r4:LL) (x4:Int) (r5:LL)
def e23:=rF Γ 23 sf23 n1 [wg0 x0 r1] []
def e36:=rF Γ 36 sf36 n1 [wg0 x0 r1] []
def kBN:=lK Γ n0 [1,3,8,9,10] kiT [(1,zP),(3,vo (X.nilL 1)),(8,vo (zl 2 r0)),(9,vo (zi x1)),(10,vo (zi x2))] [(0,wm3 x3 r4)] [] 1 0 0 (kBlk 0 (kSeq (some [1,3]) (jF Γ n2 kkU) (fK Γ 23 sf23 0)))
def e82:=rF Γ 82 sf82 n1 [wg0 x0 r1,vo (zi x2)] []
def kFU:=jN Γ n1 kAW [(1,zP),(3,vo (X.nilL 1)),(8,vo (zl 2 r0)),(9,vo (zi x1)),(10,vo (zi x2))] [(0,wm3 x3 r4)] [] 1 0 0 (kL Γ n1 [1,3,8,9,10] kiT (kBlk 0 (kSeq (some [1,3]) (jF Γ n2 kkU) (fK Γ 23 sf23 0))))
def kFV:=jN Γ n1 kkU [(1,zP),(3,vo (X.nilL 1))] [(0,wm3 x0 r1)] [] 1 0 0 (fK Γ 23 sf23 0)
def kBO:=jN Γ n1 kEU [(2,zP),(3,vo (X.ptr 1 0))] [(0,wm3 x0 r1),(1,Blk.mk [fi iK] [zi x2])] [] 2 0 0 (fK Γ 82 sf82 0)
def kBP:=jN Γ n1 kD7 [(1,zP),(3,vo (X.own 0 9 1 r0)),(8,vo (zl 2 r1)),(9,vo (zi x2)),(10,vo (zi x3))] [(0,wm3 x4 r5)] [0] 1 1 0 (kL Γ n1 [1,3,8,9,10] kiT (kBlk 0 (kSeq (some [1,3]) (jF Γ n2 kkU) (fK Γ 23 sf23 0))))
def kFW:=jN Γ n1 kD8 [] [] [] 0 0 0 (fK Γ 23 sf23 0)
def kBQ:=jN Γ n1 kET [(2,zP),(3,vo (X.ptr 1 0)),(8,vo (zi x0)),(9,vo (zb b1))] [(0,wm3 x2 r3),(1,Blk.mk [fi iK] [zi x4])] [] 2 0 0 (kBlk 0 (kSeq (some [2,3]) (jF Γ n1 kA9) (fK Γ 82 sf82 0)))
def kjW:=lK Γ n0 [1,3,8,9,10] kiT [(1,zP),(3,vo (X.own 0 9 1 r0)),(8,vo (zl 2 r1)),(9,vo (zi x2)),(10,vo (zi x3))] [(0,wm3 x4 r5)] [0] 1 1 0 (kBlk 0 (kSeq (some [1,3]) (jF Γ n2 kkU) (fK Γ 23 sf23 0)))
def kpO:=jN Γ n1 kA9 [(2,zP),(3,vo (X.ptr 1 0))] [(0,wm3 x0 r1),(1,Blk.mk [fi iK] [zi x2])] [] 2 0 0 (fK Γ 82 sf82 0)
def kop:=jN Γ n1 kAW [(1,zP),(3,vo (X.own 0 9 1 r0)),(8,vo (zl 2 r1)),(9,vo (zi x2)),(10,vo (zi x3))] [(0,wm3 x4 r5)] [0] 1 1 0 (kL Γ n1 [1,3,8,9,10] kiT (kBlk 0 (kSeq (some [1,3]) (jF Γ n2 kkU) (fK Γ 23 sf23 0))))
def kgU:=jN Γ n1 kkU [(1,zP),(3,vo (X.own 0 9 1 r0))] [(0,wm3 x1 r2)] [0] 1 1 0 (fK Γ 23 sf23 0)
def kjX:=rF Γ 108 kBf n1 [vo (zl 2 r0),vo (X.fn 109 [X.ptr 0 0])] [([fi iK],[zi x1])]
def kjY:=rF Γ 124 kl7 n1 [vo (zl 2 r0),vo (X.fn 109 [X.ptr 0 0])] [([fi iK],[zi x1])]
def koq:=lK Γ n0 [0,1,7,8] kjM [(0,vo (zl 2 r0)),(1,vo (X.fn 109 [X.ptr 0 0])),(7,vo (zi x1)),(8,vo (zi x2))] [(0,Blk.mk [fi iK] [zi x3])] [] 1 0 1 (kBlk 0 (kSeq (some []) (jF Γ n2 kk2) (finK (Γ true) rc false (shp 124) (SFunc.results kl7) (lN [([fi iK],[zi z3])]))))
def ky2:=jN Γ n1 kyD [(0,vo (zl 2 r0)),(1,vo (X.fn 109 [X.ptr 0 0])),(7,vo (zi x1)),(8,vo (zi x2))] [(0,Blk.mk [fi iK] [zi x3])] [] 1 0 1 (kL Γ n1 [0,1,7,8] kjM (kBlk 0 (kSeq (some []) (jF Γ n2 kk2) (finK (Γ true) rc false (shp 124) (SFunc.results kl7) (lN [([fi iK],[zi z3])])))))
def ky3:=jN Γ n1 kk2 [] [(0,Blk.mk [fi iK] [zi x0])] [] 1 0 1 (finK (Γ true) rc false (shp 124) (SFunc.results kl7) (lN [([fi iK],[zi z2])]))
def e109:=rF Γ 109 kBg n1 [wg0 x0 r1,zP] [([fi iK],[zi x2])]
def ky4:=jN Γ n1 kyC [(0,vo (zl 2 r0)),(1,vo (X.fn 109 [X.ptr 0 0])),(7,vo (zi x1)),(8,vo (zi x2))] [(0,Blk.mk [fi iK] [zi x3])] [] 1 0 1 (kL Γ n1 [0,1,7,8] kjM (kBlk 0 (kSeq (some []) (jF Γ n2 kk2) (finK (Γ true) rc false (shp 124) (SFunc.results kl7) (lN [([fi iK],[zi z3])])))))
theorem kFX:e23 Γ n1 x0 r1=kBN n1 Γ n1 r1 (iO (lN r1)) 0 x0 r1:=(kag ..).trans (by kernel_rfl)
theorem kFY:e36 Γ n1 x0 r1=r_oB (Γ false 82 [wg0 x0 r1,vo (zi 40)] []) (fun c0_=>oR (vo (zb c0_))) h0:=(kag ..).trans (by kernel_rfl)
theorem kvF:kBN (n0+1) Γ n2 r0 x1 x2 x3 r4=bif decide (x2 < x1) then kFU Γ n0 n2 r0 x1 x2 x3 r4 else kFV Γ n2 x3 r4:=(kah ..).trans (by kernel_rfl)
theorem ky5:e82 Γ n1 x0 r1 x2=bif decide (x2 < 1) then oR (vo (zb false)) else kBO Γ n1 x0 r1 x2:=(kag ..).trans (by kernel_rfl)
theorem kvG:kFU Γ n1 n2 r0 x1 x2 x3 r4=bif decide (0<=x2)&&decide (x2 < iO (lN r0)) then r_oS (Γ false 23 [V.agg [X.d (lG (lG r0 (Int.toNat x2) []) 0 D.junk),X.d (lG (lG r0 (Int.toNat x2) []) 1 D.junk)]] []) (fun u0_=>kBP Γ n1 n2 [[D.str u0_]] r0 x1 x2 x3 r4) h0 else none:=(kaa ..).trans (by kernel_rfl)
theorem kvH:kFV Γ n1 x0 r1=r_oS (Γ false 54 [vo (X.nilL 1),vo (zs (bm #[44,32]))] []) (fun u0_=>bif x0==1 then oR (vo (zs (bm #[98,111,111,108]))) else bif x0==2 then oR (vo (zs (bm #[105,110,116]))) else bif x0==3 then bif Nat.ble (1+bz u0_) 9223372036854775807 then bif Nat.ble (bz (bm #[40]++u0_)+1) 9223372036854775807 then oR (vo (zs (bm #[40]++u0_++bm #[41]))) else none else none else bif x0==4 then bif Nat.ble (1+bz u0_) 9223372036854775807 then bif Nat.ble (bz (bm #[91]++u0_)+1) 9223372036854775807 then oR (vo (zs (bm #[91]++u0_++bm #[93]))) else none else none else kFW Γ n1) h0:=(kaa ..).trans (by kernel_rfl)
theorem kvI:kBO Γ n1 x0 r1 x2=bif x0==1 then kBQ Γ n1 x0 (x0==1) x0 r1 x2 else kBQ Γ n1 x0 (x0==2) x0 r1 x2:=(kaa ..).trans (by kernel_rfl)
theorem kor:kBP Γ n1 n2 r0 r1 x2 x3 x4 r5=kjW n1 Γ n2 r0 r1 x2 (IntKind.wrap iK (x3+1)) x4 r5:=(kaa ..).trans (by kernel_rfl)
theorem kvJ:kBQ Γ n1 x0 b1 x2 r3 x4=bif b1 then oR (vo (zb (iO (lN r3)==0))) else bif x0==3 then bif decide (iO (lN r3) < 2) then oR (vo (zb false)) else bif decide (iO (lN r3) > 4) then oR (vo (zb false)) else kpO Γ n1 x2 r3 x4 else bif x0==4 then bif iO (lN r3) != 1 then oR (vo (zb false)) else kpO Γ n1 x2 r3 x4 else oR (vo (zb false)):=(kaa ..).trans (by kernel_rfl)
theorem kh1:kjW (n0+1) Γ n2 r0 r1 x2 x3 x4 r5=bif decide (x3 < x2) then kop Γ n0 n2 r0 r1 x2 x3 x4 r5 else kgU Γ n2 r0 x4 r5:=(kah ..).trans (by kernel_rfl)
theorem kvK:kpO Γ n1 x0 r1 x2=kn6 (Γ false 108 [vo (zl 2 r1),vo (X.fn 109 [X.ptr 0 0])] [([fi iK],[zi x2])]) (fun c0_ i1_=>oR (vo (zb !c0_))) fun d2_ i3_=>some (Out.mk false V.junk d2_ [] 0):=(kaa ..).trans (by kernel_rfl)
theorem kmn:kop Γ n1 n2 r0 r1 x2 x3 x4 r5=bif decide (0<=x3)&&decide (x3 < iO (lN r1)) then r_oS (Γ false 23 [V.agg [X.d (lG (lG r1 (Int.toNat x3) []) 0 D.junk),X.d (lG (lG r1 (Int.toNat x3) []) 1 D.junk)]] []) (fun u0_=>bif true&&true&&true&&Nat.ble ((lN r0+lN [[D.str u0_]])*17) 140737488355328 then kBP Γ n1 n2 (r0++[[D.str u0_]]) r1 x2 x3 x4 r5 else none) h0 else none:=(kaa ..).trans (by kernel_rfl)
theorem kmo:kgU Γ n1 r0 x1 r2=r_oS (Γ false 54 [vo (zl 1 r0),vo (zs (bm #[44,32]))] []) (fun u0_=>bif x1==1 then oR (vo (zs (bm #[98,111,111,108]))) else bif x1==2 then oR (vo (zs (bm #[105,110,116]))) else bif x1==3 then bif Nat.ble (1+bz u0_) 9223372036854775807 then bif Nat.ble (bz (bm #[40]++u0_)+1) 9223372036854775807 then oR (vo (zs (bm #[40]++u0_++bm #[41]))) else none else none else bif x1==4 then bif Nat.ble (1+bz u0_) 9223372036854775807 then bif Nat.ble (bz (bm #[91]++u0_)+1) 9223372036854775807 then oR (vo (zs (bm #[91]++u0_++bm #[93]))) else none else none else kFW Γ n1) h0:=(kaa ..).trans (by kernel_rfl)
theorem kmp:kjX Γ n1 r0 x1=ksh (Γ false 124 [vo (zl 2 r0),vo (X.fn 109 [X.ptr 0 0])] [([fi iK],[zi x1])]) (fun i0_ i1_=>oS (vo (zb (decide (i0_ ≥ 0)))) [[zi i1_]]) fun d2_ i3_=>some (Out.mk false V.junk d2_ [[zi i3_]] 0):=(kag ..).trans (by kernel_rfl)
theorem kmq:kjY Γ n1 r0 x1=koq n1 Γ n1 x1 r0 (iO (lN r0)) 0 x1:=(kag ..).trans (by kernel_rfl)
theorem kh2:koq (n0+1) Γ n2 z3 r0 x1 x2 x3=bif decide (x2 < x1) then ky2 Γ n0 n2 z3 r0 x1 x2 x3 else ky3 Γ n2 z3 x3:=(kah ..).trans (by kernel_rfl)
theorem kle:ky2 Γ n1 n2 z3 r0 x1 x2 x3=bif decide (0<=x2)&&decide (x2 < iO (lN r0)) then kn6 (Γ false 109 [V.agg [X.d (lG (lG r0 (Int.toNat x2) []) 0 D.junk),X.d (lG (lG r0 (Int.toNat x2) []) 1 D.junk)],zP] [([fi iK],[zi x3])]) (fun c0_ i1_=>bif c0_ then oS (vo (zi x2)) [[zi i1_]] else ky4 Γ n1 n2 z3 r0 x1 x2 i1_) fun d2_ i3_=>some (Out.mk false V.junk d2_ [[zi i3_]] 0) else none:=(kaa ..).trans (by kernel_rfl)
theorem ksM:ky3 Γ n1 z2 x0=oS (vo (zi (-1))) [[zi x0]]:=(kaa ..).trans (by kernel_rfl)
theorem kBR:e109 Γ n1 x0 r1 x2=r_oB (Γ false 82 [wg0 x0 r1,vo (zi (IntKind.wrap iK (x2 - 1)))] []) (fun c0_=>oS (vo (zb !c0_)) [[zi x2]]) fun d1_=>some (Out.mk false V.junk d1_ [[zi x2]] 0):=(kag ..).trans (by kernel_rfl)
theorem ksN:ky4 Γ n1 n2 z3 r0 x1 x2 x3=koq n1 Γ n2 z3 r0 x1 (IntKind.wrap iK (x2+1)) x3:=(kaa ..).trans (by kernel_rfl)
theorem kFZ {o:Out} (h:Ev (fun _ k n=>e23 (Ak k) n x0 r1) o):Cal 23 [wg0 x0 r1] [] o:=Ev.call (E:=fun Γ n1=>e23 Γ n1 x0 r1) (fun k=>kae (by kernel_rfl) rfl) h
theorem kF0 {o:Out} (h:Ev (fun _ k n=>e36 (Ak k) n x0 r1) o):Cal 36 [wg0 x0 r1] [] o:=Ev.call (E:=fun Γ n1=>e36 Γ n1 x0 r1) (fun k=>kae (by kernel_rfl) rfl) h
theorem ky6 {o:Out} (h:Ev (fun _ k n=>e82 (Ak k) n x0 r1 x2) o):Cal 82 [wg0 x0 r1,vo (zi x2)] [] o:=Ev.call (E:=fun Γ n1=>e82 Γ n1 x0 r1 x2) (fun k=>kae (by kernel_rfl) rfl) h
theorem kmr {o:Out} (h:Ev (fun _ k n=>kjX (Ak k) n r0 x1) o):Cal 108 [vo (zl 2 r0),vo (X.fn 109 [X.ptr 0 0])] [([fi iK],[zi x1])] o:=Ev.call (E:=fun Γ n1=>kjX Γ n1 r0 x1) (fun k=>kae (by kernel_rfl) rfl) h
theorem kms {o:Out} (h:Ev (fun _ k n=>kjY (Ak k) n r0 x1) o):Cal 124 [vo (zl 2 r0),vo (X.fn 109 [X.ptr 0 0])] [([fi iK],[zi x1])] o:=Ev.call (E:=fun Γ n1=>kjY Γ n1 r0 x1) (fun k=>kae (by kernel_rfl) rfl) h
theorem kBS {o:Out} (h:Ev (fun _ k n=>e109 (Ak k) n x0 r1 x2) o):Cal 109 [wg0 x0 r1,zP] [([fi iK],[zi x2])] o:=Ev.call (E:=fun Γ n1=>e109 Γ n1 x0 r1 x2) (fun k=>kae (by kernel_rfl) rfl) h
end
end Go.Proofs.YtaphnbaiamnfpaaGreatDoor.Ps
