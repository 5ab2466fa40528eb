/- What the pieces of the functions do, as functions of their data. Printed by pack4.py. -/
import Derived.Test.YtaphnbaiamnfpaaGreatDoorPv0
namespace Go.Proofs.YtaphnbaiamnfpaaGreatDoor.Ps
set_option maxHeartbeats 0
set_option maxRecDepth 100000
set_option linter.unusedVariables false
open Go Go.RowKit
open Go.IntKind renaming i64 -> iK, u8 -> uK
open _root_.List renaming getD -> lG, length -> lN
open _root_.Int renaming toNat -> iN, ofNat -> iO
open D renaming junk -> dj
open V renaming one -> vo
open _root_.ByteArray renaming data -> bd
open _root_.Array renaming toList -> tL
noncomputable section
variable (n0:Nat) (Γ:SM) (n1 n2:Nat) (r0:LL) (x0:Int) (s0:ByteArray) (r1:LL) (x1 x2:Int) (s2:ByteArray) (r2:LL) (x3:Int) (r3:LL) (s4:ByteArray) (r4:LL) (x4:Int) (r5:LL) (s5:ByteArray) (x5:Int) (r6:LL) (x6:Int) (s6:ByteArray) (r7:LL) (x7 x8:Int) (r8:LL) (x9:Int) (r9 r10:LL) (s10:ByteArray) (x10:Int) (r11:LL) (x11 x12:Int) (r12:LL) (x13:Int) (r13:LL) (s14:ByteArray) (x14:Int) (r15:LL) (x15:Int) (r16:LL) (x16:Int) (r17:LL) (x18 x19:Int) (s20:ByteArray) (r21 r22 r23:LL) (x24 x25 x26 x27:Int)
def e13:=rF Γ 13 sf13 n1 [wg1 r0 r1 x2 x3 s4 r5 r6 r7 x8 x9,wg1 r10 r11 x12 x13 s14 r15 r16 r17 x18 x19] []
def e16:=rF Γ 16 sf16 n1 [vE x0 x1 s2 r3 r4 r5 x6 x7,vE x8 x9 s10 r11 r12 r13 x14 x15] []
def kty:=rF Γ 38 sf38 n1 [vo (zl 5 r0),vo (zl 5 r1),vo (X.fn 39 [])] []
def ktz:=rF Γ 40 sf40 n1 [vo (zl 14 r0),vo (zl 14 r1),vo (X.fn 41 [])] []
def e46:=rF Γ 46 sf46 n1 [vo (zl 1 r0),vo (zl 1 r1)] []
def e47:=rF Γ 47 sf47 n1 [vo (zl 1 r0),vo (zl 1 r1)] []
def ktA:=rF Γ 48 sf48 n1 [vo (zl 8 r0),vo (zl 8 r1),vo (X.fn 16 [])] []
def kHP:=jN Γ n1 kEj [(0,vo (zl 5 r0)),(1,vo (zl 5 r1)),(2,vo (X.fn 39 []))] [] [] 0 0 0 (fK Γ 38 sf38 0)
def kHQ:=jN Γ n1 kEm [(0,vo (zl 14 r0)),(1,vo (zl 14 r1)),(2,vo (X.fn 41 []))] [] [] 0 0 0 (fK Γ 40 sf40 0)
def kHR:=jN Γ n1 kEt [(0,vo (zl 1 r0)),(1,vo (zl 1 r1))] [] [] 0 0 0 (fK Γ 46 sf46 0)
def kHS:=jN Γ n1 kEw [(0,vo (zl 1 r0)),(1,vo (zl 1 r1))] [] [] 0 0 0 (fK Γ 47 sf47 0)
def kHT:=jN Γ n1 kEz [(0,vo (zl 8 r0)),(1,vo (zl 8 r1)),(2,vo (X.fn 16 []))] [] [] 0 0 0 (fK Γ 48 sf48 0)
def kxc:=lK Γ n0 [1,2,15,16,17] knN [(1,vo (zl 5 r0)),(2,vo (X.fn 39 [])),(15,vo (zl 5 r1)),(16,vo (zi x2)),(17,vo (zi x3))] [] [] 0 0 0 (kBlk 0 (kSeq (some []) (jF Γ n2 krQ) (fK Γ 38 sf38 0)))
def kxd:=lK Γ n0 [1,2,15,16,17] knO [(1,vo (zl 14 r0)),(2,vo (X.fn 41 [])),(15,vo (zl 14 r1)),(16,vo (zi x2)),(17,vo (zi x3))] [] [] 0 0 0 (kBlk 0 (kSeq (some []) (jF Γ n2 krR) (fK Γ 40 sf40 0)))
def kxe:=lK Γ n0 [0,1,12,13] knQ [(0,vo (zl 1 r0)),(1,vo (zl 1 r1)),(12,vo (zi x2)),(13,vo (zi x3))] [] [] 0 0 0 (kBlk 0 (kSeq (some []) (jF Γ n2 krV) (fK Γ 46 sf46 0)))
def kxf:=lK Γ n0 [0,1,12,13] knR [(0,vo (zl 1 r0)),(1,vo (zl 1 r1)),(12,vo (zi x2)),(13,vo (zi x3))] [] [] 0 0 0 (kBlk 0 (kSeq (some []) (jF Γ n2 krW) (fK Γ 47 sf47 0)))
def kxg:=lK Γ n0 [1,2,15,16,17] knS [(1,vo (zl 8 r0)),(2,vo (X.fn 16 [])),(15,vo (zl 8 r1)),(16,vo (zi x2)),(17,vo (zi x3))] [] [] 0 0 0 (kBlk 0 (kSeq (some []) (jF Γ n2 krX) (fK Γ 48 sf48 0)))
def kHU:=jN Γ n1 kEi [(1,vo (zl 5 r0)),(2,vo (X.fn 39 [])),(15,vo (zl 5 r1)),(16,vo (zi x2)),(17,vo (zi x3))] [] [] 0 0 0 (kL Γ n1 [1,2,15,16,17] knN (kBlk 0 (kSeq (some []) (jF Γ n2 krQ) (fK Γ 38 sf38 0))))
def kHV:=jN Γ n1 krQ [] [] [] 0 0 0 (fK Γ 38 sf38 0)
def kHW:=jN Γ n1 kEl [(1,vo (zl 14 r0)),(2,vo (X.fn 41 [])),(15,vo (zl 14 r1)),(16,vo (zi x2)),(17,vo (zi x3))] [] [] 0 0 0 (kL Γ n1 [1,2,15,16,17] knO (kBlk 0 (kSeq (some []) (jF Γ n2 krR) (fK Γ 40 sf40 0))))
def kHX:=jN Γ n1 krR [] [] [] 0 0 0 (fK Γ 40 sf40 0)
def kHY:=jN Γ n1 kEs [(0,vo (zl 1 r0)),(1,vo (zl 1 r1)),(12,vo (zi x2)),(13,vo (zi x3))] [] [] 0 0 0 (kL Γ n1 [0,1,12,13] knQ (kBlk 0 (kSeq (some []) (jF Γ n2 krV) (fK Γ 46 sf46 0))))
def kHZ:=jN Γ n1 krV [] [] [] 0 0 0 (fK Γ 46 sf46 0)
def kH0:=jN Γ n1 kEv [(0,vo (zl 1 r0)),(1,vo (zl 1 r1)),(12,vo (zi x2)),(13,vo (zi x3))] [] [] 0 0 0 (kL Γ n1 [0,1,12,13] knR (kBlk 0 (kSeq (some []) (jF Γ n2 krW) (fK Γ 47 sf47 0))))
def kH1:=jN Γ n1 krW [] [] [] 0 0 0 (fK Γ 47 sf47 0)
def kH2:=jN Γ n1 kEy [(1,vo (zl 8 r0)),(2,vo (X.fn 16 [])),(15,vo (zl 8 r1)),(16,vo (zi x2)),(17,vo (zi x3))] [] [] 0 0 0 (kL Γ n1 [1,2,15,16,17] knS (kBlk 0 (kSeq (some []) (jF Γ n2 krX) (fK Γ 48 sf48 0))))
def kH3:=jN Γ n1 krX [] [] [] 0 0 0 (fK Γ 48 sf48 0)
def e39:=rF Γ 39 sf39 n1 [V.agg [zs s0,zi x1,zl 2 r2,zi x3,zi x4],V.agg [zs s5,zi x6,zl 2 r7,zi x8,zi x9]] []
def kH4:=jN Γ n1 kEh [(1,vo (zl 5 r0)),(2,vo (X.fn 39 [])),(15,vo (zl 5 r1)),(16,vo (zi x2)),(17,vo (zi x3))] [] [] 0 0 0 (kL Γ n1 [1,2,15,16,17] knN (kBlk 0 (kSeq (some []) (jF Γ n2 krQ) (fK Γ 38 sf38 0))))
def e41:=rF Γ 41 sf41 n1 [wg2 s0 r1 x2 r3 x4 x5 s6 r7 r8 r9 x10 x11 x12 x13,wg2 s14 r15 x16 r17 x18 x19 s20 r21 r22 r23 x24 x25 x26 x27] []
def kH5:=jN Γ n1 kEk [(1,vo (zl 14 r0)),(2,vo (X.fn 41 [])),(15,vo (zl 14 r1)),(16,vo (zi x2)),(17,vo (zi x3))] [] [] 0 0 0 (kL Γ n1 [1,2,15,16,17] knO (kBlk 0 (kSeq (some []) (jF Γ n2 krR) (fK Γ 40 sf40 0))))
def kH6:=jN Γ n1 kEr [(0,vo (zl 1 r0)),(1,vo (zl 1 r1)),(12,vo (zi x2)),(13,vo (zi x3))] [] [] 0 0 0 (kL Γ n1 [0,1,12,13] knQ (kBlk 0 (kSeq (some []) (jF Γ n2 krV) (fK Γ 46 sf46 0))))
def kH7:=jN Γ n1 kEu [(0,vo (zl 1 r0)),(1,vo (zl 1 r1)),(12,vo (zi x2)),(13,vo (zi x3))] [] [] 0 0 0 (kL Γ n1 [0,1,12,13] knR (kBlk 0 (kSeq (some []) (jF Γ n2 krW) (fK Γ 47 sf47 0))))
def kH8:=jN Γ n1 kEx [(1,vo (zl 8 r0)),(2,vo (X.fn 16 [])),(15,vo (zl 8 r1)),(16,vo (zi x2)),(17,vo (zi x3))] [] [] 0 0 0 (kL Γ n1 [1,2,15,16,17] knS (kBlk 0 (kSeq (some []) (jF Γ n2 krX) (fK Γ 48 sf48 0))))
def e42:=rF Γ 42 sf42 n1 [wg0 x0 r1,wg0 x2 r3] []
def ktB:=rF Γ 85 sf85 n1 [vo (zl 2 r0),vo (zl 2 r1),vo (X.fn 42 [])] []
def kH9:=jN Γ n1 kEX [(0,vo (zl 2 r0)),(1,vo (zl 2 r1)),(2,vo (X.fn 42 []))] [] [] 0 0 0 (fK Γ 85 sf85 0)
def kxh:=lK Γ n0 [1,2,15,16,17] knX [(1,vo (zl 2 r0)),(2,vo (X.fn 42 [])),(15,vo (zl 2 r1)),(16,vo (zi x2)),(17,vo (zi x3))] [] [] 0 0 0 (kBlk 0 (kSeq (some []) (jF Γ n2 kr4) (fK Γ 85 sf85 0)))
def kIa:=jN Γ n1 kEW [(1,vo (zl 2 r0)),(2,vo (X.fn 42 [])),(15,vo (zl 2 r1)),(16,vo (zi x2)),(17,vo (zi x3))] [] [] 0 0 0 (kL Γ n1 [1,2,15,16,17] knX (kBlk 0 (kSeq (some []) (jF Γ n2 kr4) (fK Γ 85 sf85 0))))
def kIb:=jN Γ n1 kr4 [] [] [] 0 0 0 (fK Γ 85 sf85 0)
def kIc:=jN Γ n1 kEV [(1,vo (zl 2 r0)),(2,vo (X.fn 42 [])),(15,vo (zl 2 r1)),(16,vo (zi x2)),(17,vo (zi x3))] [] [] 0 0 0 (kL Γ n1 [1,2,15,16,17] knX (kBlk 0 (kSeq (some []) (jF Γ n2 kr4) (fK Γ 85 sf85 0))))
theorem kId:e13 Γ n1 r0 r1 x2 x3 s4 r5 r6 r7 x8 x9 r10 r11 x12 x13 s14 r15 r16 r17 x18 x19=r_oB (Γ false 38 [vo (zl 5 r0),vo (zl 5 r10),vo (X.fn 39 [])] []) (fun c0_=>bif c0_ then r_oB (Γ false 40 [vo (zl 14 r1),vo (zl 14 r11),vo (X.fn 41 [])] []) (fun c2_=>bif c2_ then r_oB (Γ false 16 [vE x2 x3 s4 r5 r6 r7 x8 x9,vE x12 x13 s14 r15 r16 r17 x18 x19] []) (fun c4_=>oR (vo (zb c4_))) h0 else oR (vo (zb false))) h0 else oR (vo (zb false))) h0:=(kag ..).trans (by kernel_rfl)
theorem kIe:e16 Γ n1 x0 x1 s2 r3 r4 r5 x6 x7 x8 x9 s10 r11 r12 r13 x14 x15=bif x0==x8 then bif x1==x9 then bif beqL (tL (bd s2)) (tL (bd s10)) then r_oB (Γ false 46 [vo (zl 1 r3),vo (zl 1 r11)] []) (fun c0_=>bif c0_ then r_oB (Γ false 47 [vo (zl 1 r4),vo (zl 1 r12)] []) (fun c2_=>bif c2_ then r_oB (Γ false 48 [vo (zl 8 r5),vo (zl 8 r13),vo (X.fn 16 [])] []) (fun c4_=>oR (vo (zb c4_))) h0 else oR (vo (zb false))) h0 else oR (vo (zb false))) h0 else oR (vo (zb false)) else oR (vo (zb false)) else oR (vo (zb false)):=(kag ..).trans (by kernel_rfl)
theorem ktC:kty Γ n1 r0 r1=bif iO (lN r0) != iO (lN r1) then oR (vo (zb false)) else kHP Γ n1 r0 r1:=(kag ..).trans (by kernel_rfl)
theorem ktD:ktz Γ n1 r0 r1=bif iO (lN r0) != iO (lN r1) then oR (vo (zb false)) else kHQ Γ n1 r0 r1:=(kag ..).trans (by kernel_rfl)
theorem kIf:e46 Γ n1 r0 r1=bif iO (lN r0) != iO (lN r1) then oR (vo (zb false)) else kHR Γ n1 r0 r1:=(kag ..).trans (by kernel_rfl)
theorem kIg:e47 Γ n1 r0 r1=bif iO (lN r0) != iO (lN r1) then oR (vo (zb false)) else kHS Γ n1 r0 r1:=(kag ..).trans (by kernel_rfl)
theorem ktE:ktA Γ n1 r0 r1=bif iO (lN r0) != iO (lN r1) then oR (vo (zb false)) else kHT Γ n1 r0 r1:=(kag ..).trans (by kernel_rfl)
theorem kxi:kHP Γ n1 r0 r1=kxc n1 Γ n1 r1 r0 (iO (lN r0)) 0:=(kaa ..).trans (by kernel_rfl)
theorem kxj:kHQ Γ n1 r0 r1=kxd n1 Γ n1 r1 r0 (iO (lN r0)) 0:=(kaa ..).trans (by kernel_rfl)
theorem kxk:kHR Γ n1 r0 r1=kxe n1 Γ n1 r0 r1 (iO (lN r0)) 0:=(kaa ..).trans (by kernel_rfl)
theorem kxl:kHS Γ n1 r0 r1=kxf n1 Γ n1 r0 r1 (iO (lN r0)) 0:=(kaa ..).trans (by kernel_rfl)
theorem kxm:kHT Γ n1 r0 r1=kxg n1 Γ n1 r1 r0 (iO (lN r0)) 0:=(kaa ..).trans (by kernel_rfl)
theorem ko3:kxc (n0+1) Γ n2 r0 r1 x2 x3=bif decide (x3 < x2) then kHU Γ n0 n2 r0 r1 x2 x3 else kHV Γ n2:=(kah ..).trans (by kernel_rfl)
theorem ko4:kxd (n0+1) Γ n2 r0 r1 x2 x3=bif decide (x3 < x2) then kHW Γ n0 n2 r0 r1 x2 x3 else kHX Γ n2:=(kah ..).trans (by kernel_rfl)
theorem ko5:kxe (n0+1) Γ n2 r0 r1 x2 x3=bif decide (x3 < x2) then kHY Γ n0 n2 r0 r1 x2 x3 else kHZ Γ n2:=(kah ..).trans (by kernel_rfl)
theorem ko6:kxf (n0+1) Γ n2 r0 r1 x2 x3=bif decide (x3 < x2) then kH0 Γ n0 n2 r0 r1 x2 x3 else kH1 Γ n2:=(kah ..).trans (by kernel_rfl)
theorem ko7:kxg (n0+1) Γ n2 r0 r1 x2 x3=bif decide (x3 < x2) then kH2 Γ n0 n2 r0 r1 x2 x3 else kH3 Γ n2:=(kah ..).trans (by kernel_rfl)
theorem kxn:kHU Γ n1 n2 r0 r1 x2 x3=bif decide (0<=x3)&&decide (x3 < iO (lN r1)) then bif decide (0<=x3)&&decide (x3 < iO (lN r0)) then r_oB (Γ false 39 [V.agg [X.d (lG (lG r1 (iN x3) []) 0 dj),X.d (lG (lG r1 (iN x3) []) 1 dj),X.d (lG (lG r1 (iN x3) []) 2 dj),X.d (lG (lG r1 (iN x3) []) 3 dj),X.d (lG (lG r1 (iN x3) []) 4 dj)],V.agg [X.d (lG (lG r0 (iN x3) []) 0 dj),X.d (lG (lG r0 (iN x3) []) 1 dj),X.d (lG (lG r0 (iN x3) []) 2 dj),X.d (lG (lG r0 (iN x3) []) 3 dj),X.d (lG (lG r0 (iN x3) []) 4 dj)]] []) (fun c0_=>bif !c0_ then oR (vo (zb false)) else kH4 Γ n1 n2 r0 r1 x2 x3) h0 else none else none:=(kaa ..).trans (by kernel_rfl)
theorem kxo:kHV Γ n1=oR (vo (zb true)):=(kaa ..).trans (by kernel_rfl)
theorem kxp:kHW Γ n1 n2 r0 r1 x2 x3=bif decide (0<=x3)&&decide (x3 < iO (lN r1)) then bif decide (0<=x3)&&decide (x3 < iO (lN r0)) then r_oB (Γ false 41 [V.agg [X.d (lG (lG r1 (iN x3) []) 0 dj),X.d (lG (lG r1 (iN x3) []) 1 dj),X.d (lG (lG r1 (iN x3) []) 2 dj),X.d (lG (lG r1 (iN x3) []) 3 dj),X.d (lG (lG r1 (iN x3) []) 4 dj),X.d (lG (lG r1 (iN x3) []) 5 dj),X.d (lG (lG r1 (iN x3) []) 6 dj),X.d (lG (lG r1 (iN x3) []) 7 dj),X.d (lG (lG r1 (iN x3) []) 8 dj),X.d (lG (lG r1 (iN x3) []) 9 dj),X.d (lG (lG r1 (iN x3) []) 10 dj),X.d (lG (lG r1 (iN x3) []) 11 dj),X.d (lG (lG r1 (iN x3) []) 12 dj),X.d (lG (lG r1 (iN x3) []) 13 dj)],V.agg [X.d (lG (lG r0 (iN x3) []) 0 dj),X.d (lG (lG r0 (iN x3) []) 1 dj),X.d (lG (lG r0 (iN x3) []) 2 dj),X.d (lG (lG r0 (iN x3) []) 3 dj),X.d (lG (lG r0 (iN x3) []) 4 dj),X.d (lG (lG r0 (iN x3) []) 5 dj),X.d (lG (lG r0 (iN x3) []) 6 dj),X.d (lG (lG r0 (iN x3) []) 7 dj),X.d (lG (lG r0 (iN x3) []) 8 dj),X.d (lG (lG r0 (iN x3) []) 9 dj),X.d (lG (lG r0 (iN x3) []) 10 dj),X.d (lG (lG r0 (iN x3) []) 11 dj),X.d (lG (lG r0 (iN x3) []) 12 dj),X.d (lG (lG r0 (iN x3) []) 13 dj)]] []) (fun c0_=>bif !c0_ then oR (vo (zb false)) else kH5 Γ n1 n2 r0 r1 x2 x3) h0 else none else none:=(kaa ..).trans (by kernel_rfl)
theorem kxq:kHX Γ n1=oR (vo (zb true)):=(kaa ..).trans (by kernel_rfl)
theorem kxr:kHY Γ n1 n2 r0 r1 x2 x3=bif decide (0<=x3)&&decide (x3 < iO (lN r0)) then bif decide (0<=x3)&&decide (x3 < iO (lN r1)) then bif D.isStr (lG (lG r0 (iN x3) []) 0 dj) then bif D.isStr (lG (lG r1 (iN x3) []) 0 dj) then bif !beqL (tL (bd (D.bytes (lG (lG r0 (iN x3) []) 0 dj)))) (tL (bd (D.bytes (lG (lG r1 (iN x3) []) 0 dj)))) then oR (vo (zb false)) else kH6 Γ n1 n2 r0 r1 x2 x3 else none else none else none else none:=(kaa ..).trans (by kernel_rfl)
theorem kxs:kHZ Γ n1=oR (vo (zb true)):=(kaa ..).trans (by kernel_rfl)
theorem kxt:kH0 Γ n1 n2 r0 r1 x2 x3=bif decide (0<=x3)&&decide (x3 < iO (lN r0)) then bif decide (0<=x3)&&decide (x3 < iO (lN r1)) then bif D.isInt iK (lG (lG r0 (iN x3) []) 0 dj) then bif D.isInt iK (lG (lG r1 (iN x3) []) 0 dj) then bif D.num (lG (lG r0 (iN x3) []) 0 dj) != D.num (lG (lG r1 (iN x3) []) 0 dj) then oR (vo (zb false)) else kH7 Γ n1 n2 r0 r1 x2 x3 else none else none else none else none:=(kaa ..).trans (by kernel_rfl)
theorem kxu:kH1 Γ n1=oR (vo (zb true)):=(kaa ..).trans (by kernel_rfl)
theorem kxv:kH2 Γ n1 n2 r0 r1 x2 x3=bif decide (0<=x3)&&decide (x3 < iO (lN r1)) then bif decide (0<=x3)&&decide (x3 < iO (lN r0)) then r_oB (Γ false 16 [V.agg [X.d (lG (lG r1 (iN x3) []) 0 dj),X.d (lG (lG r1 (iN x3) []) 1 dj),X.d (lG (lG r1 (iN x3) []) 2 dj),X.d (lG (lG r1 (iN x3) []) 3 dj),X.d (lG (lG r1 (iN x3) []) 4 dj),X.d (lG (lG r1 (iN x3) []) 5 dj),X.d (lG (lG r1 (iN x3) []) 6 dj),X.d (lG (lG r1 (iN x3) []) 7 dj)],V.agg [X.d (lG (lG r0 (iN x3) []) 0 dj),X.d (lG (lG r0 (iN x3) []) 1 dj),X.d (lG (lG r0 (iN x3) []) 2 dj),X.d (lG (lG r0 (iN x3) []) 3 dj),X.d (lG (lG r0 (iN x3) []) 4 dj),X.d (lG (lG r0 (iN x3) []) 5 dj),X.d (lG (lG r0 (iN x3) []) 6 dj),X.d (lG (lG r0 (iN x3) []) 7 dj)]] []) (fun c0_=>bif !c0_ then oR (vo (zb false)) else kH8 Γ n1 n2 r0 r1 x2 x3) h0 else none else none:=(kaa ..).trans (by kernel_rfl)
theorem kxw:kH3 Γ n1=oR (vo (zb true)):=(kaa ..).trans (by kernel_rfl)
theorem kIh:e39 Γ n1 s0 x1 r2 x3 x4 s5 x6 r7 x8 x9=bif beqL (tL (bd s0)) (tL (bd s5)) then r_oB (Γ false 42 [wg0 x1 r2,wg0 x6 r7] []) (fun c0_=>oR (vo (zb c0_))) h0 else oR (vo (zb false)):=(kag ..).trans (by kernel_rfl)
theorem kxx:kH4 Γ n1 n2 r0 r1 x2 x3=kxc n1 Γ n2 r0 r1 x2 (IntKind.wrap iK (x3+1)):=(kaa ..).trans (by kernel_rfl)
theorem kIi:e41 Γ n1 s0 r1 x2 r3 x4 x5 s6 r7 r8 r9 x10 x11 x12 x13 s14 r15 x16 r17 x18 x19 s20 r21 r22 r23 x24 x25 x26 x27=bif beqL (tL (bd s0)) (tL (bd s14)) then r_oB (Γ false 38 [vo (zl 5 r1),vo (zl 5 r15),vo (X.fn 39 [])] []) (fun c0_=>bif c0_ then r_oB (Γ false 42 [wg0 x2 r3,wg0 x16 r17] []) (fun c2_=>bif c2_ then r_oB (Γ false 16 [vE x4 x5 s6 r7 r8 r9 x10 x11,vE x18 x19 s20 r21 r22 r23 x24 x25] []) (fun c4_=>oR (vo (zb c4_))) h0 else oR (vo (zb false))) h0 else oR (vo (zb false))) h0 else oR (vo (zb false)):=(kag ..).trans (by kernel_rfl)
theorem kxy:kH5 Γ n1 n2 r0 r1 x2 x3=kxd n1 Γ n2 r0 r1 x2 (IntKind.wrap iK (x3+1)):=(kaa ..).trans (by kernel_rfl)
theorem kxz:kH6 Γ n1 n2 r0 r1 x2 x3=kxe n1 Γ n2 r0 r1 x2 (IntKind.wrap iK (x3+1)):=(kaa ..).trans (by kernel_rfl)
theorem kxA:kH7 Γ n1 n2 r0 r1 x2 x3=kxf n1 Γ n2 r0 r1 x2 (IntKind.wrap iK (x3+1)):=(kaa ..).trans (by kernel_rfl)
theorem kxB:kH8 Γ n1 n2 r0 r1 x2 x3=kxg n1 Γ n2 r0 r1 x2 (IntKind.wrap iK (x3+1)):=(kaa ..).trans (by kernel_rfl)
theorem kIj:e42 Γ n1 x0 r1 x2 r3=bif x0==x2 then r_oB (Γ false 85 [vo (zl 2 r1),vo (zl 2 r3),vo (X.fn 42 [])] []) (fun c0_=>oR (vo (zb c0_))) h0 else oR (vo (zb false)):=(kag ..).trans (by kernel_rfl)
theorem ktF:ktB Γ n1 r0 r1=bif iO (lN r0) != iO (lN r1) then oR (vo (zb false)) else kH9 Γ n1 r0 r1:=(kag ..).trans (by kernel_rfl)
theorem kxC:kH9 Γ n1 r0 r1=kxh n1 Γ n1 r1 r0 (iO (lN r0)) 0:=(kaa ..).trans (by kernel_rfl)
theorem ko8:kxh (n0+1) Γ n2 r0 r1 x2 x3=bif decide (x3 < x2) then kIa Γ n0 n2 r0 r1 x2 x3 else kIb Γ n2:=(kah ..).trans (by kernel_rfl)
theorem kxD:kIa Γ n1 n2 r0 r1 x2 x3=bif decide (0<=x3)&&decide (x3 < iO (lN r1)) then bif decide (0<=x3)&&decide (x3 < iO (lN r0)) then r_oB (Γ false 42 [V.agg [X.d (lG (lG r1 (iN x3) []) 0 dj),X.d (lG (lG r1 (iN x3) []) 1 dj)],V.agg [X.d (lG (lG r0 (iN x3) []) 0 dj),X.d (lG (lG r0 (iN x3) []) 1 dj)]] []) (fun c0_=>bif !c0_ then oR (vo (zb false)) else kIc Γ n1 n2 r0 r1 x2 x3) h0 else none else none:=(kaa ..).trans (by kernel_rfl)
theorem kxE:kIb Γ n1=oR (vo (zb true)):=(kaa ..).trans (by kernel_rfl)
theorem kxF:kIc Γ n1 n2 r0 r1 x2 x3=kxh n1 Γ n2 r0 r1 x2 (IntKind.wrap iK (x3+1)):=(kaa ..).trans (by kernel_rfl)
theorem kIk {o:Out} (h:Ev (fun _ k n=>e13 (Ak k) n r0 r1 x2 x3 s4 r5 r6 r7 x8 x9 r10 r11 x12 x13 s14 r15 r16 r17 x18 x19) o):Cal 13 [wg1 r0 r1 x2 x3 s4 r5 r6 r7 x8 x9,wg1 r10 r11 x12 x13 s14 r15 r16 r17 x18 x19] [] o:=Ev.call (E:=fun Γ n1=>e13 Γ n1 r0 r1 x2 x3 s4 r5 r6 r7 x8 x9 r10 r11 x12 x13 s14 r15 r16 r17 x18 x19) (fun k=>kae (by kernel_rfl) rfl) h
theorem kIl {o:Out} (h:Ev (fun _ k n=>e16 (Ak k) n x0 x1 s2 r3 r4 r5 x6 x7 x8 x9 s10 r11 r12 r13 x14 x15) o):Cal 16 [vE x0 x1 s2 r3 r4 r5 x6 x7,vE x8 x9 s10 r11 r12 r13 x14 x15] [] o:=Ev.call (E:=fun Γ n1=>e16 Γ n1 x0 x1 s2 r3 r4 r5 x6 x7 x8 x9 s10 r11 r12 r13 x14 x15) (fun k=>kae (by kernel_rfl) rfl) h
theorem ktG {o:Out} (h:Ev (fun _ k n=>kty (Ak k) n r0 r1) o):Cal 38 [vo (zl 5 r0),vo (zl 5 r1),vo (X.fn 39 [])] [] o:=Ev.call (E:=fun Γ n1=>kty Γ n1 r0 r1) (fun k=>kae (by kernel_rfl) rfl) h
theorem ktH {o:Out} (h:Ev (fun _ k n=>ktz (Ak k) n r0 r1) o):Cal 40 [vo (zl 14 r0),vo (zl 14 r1),vo (X.fn 41 [])] [] o:=Ev.call (E:=fun Γ n1=>ktz Γ n1 r0 r1) (fun k=>kae (by kernel_rfl) rfl) h
theorem kIm {o:Out} (h:Ev (fun _ k n=>e46 (Ak k) n r0 r1) o):Cal 46 [vo (zl 1 r0),vo (zl 1 r1)] [] o:=Ev.call (E:=fun Γ n1=>e46 Γ n1 r0 r1) (fun k=>kae (by kernel_rfl) rfl) h
theorem kIn {o:Out} (h:Ev (fun _ k n=>e47 (Ak k) n r0 r1) o):Cal 47 [vo (zl 1 r0),vo (zl 1 r1)] [] o:=Ev.call (E:=fun Γ n1=>e47 Γ n1 r0 r1) (fun k=>kae (by kernel_rfl) rfl) h
theorem ktI {o:Out} (h:Ev (fun _ k n=>ktA (Ak k) n r0 r1) o):Cal 48 [vo (zl 8 r0),vo (zl 8 r1),vo (X.fn 16 [])] [] o:=Ev.call (E:=fun Γ n1=>ktA Γ n1 r0 r1) (fun k=>kae (by kernel_rfl) rfl) h
theorem kIo {o:Out} (h:Ev (fun _ k n=>e39 (Ak k) n s0 x1 r2 x3 x4 s5 x6 r7 x8 x9) o):Cal 39 [V.agg [zs s0,zi x1,zl 2 r2,zi x3,zi x4],V.agg [zs s5,zi x6,zl 2 r7,zi x8,zi x9]] [] o:=Ev.call (E:=fun Γ n1=>e39 Γ n1 s0 x1 r2 x3 x4 s5 x6 r7 x8 x9) (fun k=>kae (by kernel_rfl) rfl) h
theorem kIp {o:Out} (h:Ev (fun _ k n=>e41 (Ak k) n s0 r1 x2 r3 x4 x5 s6 r7 r8 r9 x10 x11 x12 x13 s14 r15 x16 r17 x18 x19 s20 r21 r22 r23 x24 x25 x26 x27) o):Cal 41 [wg2 s0 r1 x2 r3 x4 x5 s6 r7 r8 r9 x10 x11 x12 x13,wg2 s14 r15 x16 r17 x18 x19 s20 r21 r22 r23 x24 x25 x26 x27] [] o:=Ev.call (E:=fun Γ n1=>e41 Γ n1 s0 r1 x2 r3 x4 x5 s6 r7 r8 r9 x10 x11 x12 x13 s14 r15 x16 r17 x18 x19 s20 r21 r22 r23 x24 x25 x26 x27) (fun k=>kae (by kernel_rfl) rfl) h
theorem kIq {o:Out} (h:Ev (fun _ k n=>e42 (Ak k) n x0 r1 x2 r3) o):Cal 42 [wg0 x0 r1,wg0 x2 r3] [] o:=Ev.call (E:=fun Γ n1=>e42 Γ n1 x0 r1 x2 r3) (fun k=>kae (by kernel_rfl) rfl) h
theorem ktJ {o:Out} (h:Ev (fun _ k n=>ktB (Ak k) n r0 r1) o):Cal 85 [vo (zl 2 r0),vo (zl 2 r1),vo (X.fn 42 [])] [] o:=Ev.call (E:=fun Γ n1=>ktB Γ n1 r0 r1) (fun k=>kae (by kernel_rfl) rfl) h
end
end Go.Proofs.YtaphnbaiamnfpaaGreatDoor.Ps
