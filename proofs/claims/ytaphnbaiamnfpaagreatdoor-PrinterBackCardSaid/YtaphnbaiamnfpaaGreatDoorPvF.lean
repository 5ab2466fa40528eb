/- What the pieces of the functions do, as functions of their data. Printed by pack4.py. -/
import Derived.Test.YtaphnbaiamnfpaaGreatDoorPv0
namespace Go.Proofs.YtaphnbaiamnfpaaGreatDoor.Ps
set_option maxHeartbeats 0
set_option maxRecDepth 100000
set_option linter.unusedVariables false
open Go Go.RowKit
open Go.IntKind renaming i64 -> iK, u8 -> uK
open _root_.List renaming getD -> lG, length -> lN
open _root_.Int renaming toNat -> iN, ofNat -> iO
open D renaming junk -> dj
open V renaming one -> vo
noncomputable section
variable (n0:Nat) (Γ:SM) (n1 n2 n3:Nat) (x0:Int) (r1:LL) (x1:Int) (r2:LL) (x2:Int) (s2:ByteArray) (x3:Int) (r3:LL) (x4:Int) (r4:LL) (s5:ByteArray) (x5:Int) (r5 r6:LL) (x6:Int) (s6:ByteArray) (r7:LL) (s7:ByteArray) (x7:Int) (r8:LL) (s8:ByteArray) (x8 x9:Int) (r9:LL) (s9:ByteArray) (x10:Int) (r10:LL) (x11:Int) (r11:LL) (x12:Int) (r12:LL) (x13 x14:Int)
def e6:=rF Γ 6 sf6 n1 [vo (zi x0),wg1 r1 r2 x3 x4 s5 r6 r7 r8 x9 x10] []
def q6_0:=jN Γ n1 j6_0 [(0,vo (zi x0)),(3,zP)] [(0,wm4 r1 r2 x3 x4 s5 r6 r7 r8 x9 x10)] [] 1 0 0 (fK Γ 6 sf6 0)
def l6_0:=lK Γ n0 [0,3,5,6,7] kpG [(0,vo (zi x0)),(3,zP),(5,vo (X.own 0 28 8 r1)),(6,vo (X.nilL 2)),(7,vo (zi x2))] [(0,wm4 r3 r4 x5 x6 s7 r8 r9 r10 x11 x12)] [0] 1 1 0 (kBlk 0 (kSeq (some [0,3,5,6]) (jF Γ n2 j6_3) (fK Γ 6 sf6 0)))
def q6_1:=jN Γ n1 j6_1 [(0,vo (zi x0)),(3,zP),(5,vo (X.own 0 28 8 r1)),(6,vo (X.nilL 2)),(7,vo (zi x2))] [(0,wm4 r3 r4 x5 x6 s7 r8 r9 r10 x11 x12)] [0] 1 1 0 (kL Γ n1 [0,3,5,6,7] kpG (kBlk 0 (kSeq (some [0,3,5,6]) (jF Γ n2 j6_3) (fK Γ 6 sf6 0))))
def q6_3:=jN Γ n1 j6_3 [(0,vo (zi x0)),(3,zP),(5,vo (X.own 0 28 8 r1)),(6,vo (X.nilL 2))] [(0,wm4 r2 r3 x4 x5 s6 r7 r8 r9 x10 x11)] [0] 1 1 0 (fK Γ 6 sf6 0)
def q6_2:=jN Γ n1 j6_2 [(0,vo (zi x0)),(3,zP),(5,vo (X.own 0 28 8 r1)),(6,vo (X.own 1 49 2 r2)),(7,vo (zi x3))] [(0,wm4 r4 r5 x6 x7 s8 r9 r10 r11 x12 x13)] [0,1] 1 2 0 (kL Γ n1 [0,3,5,6,7] kpG (kBlk 0 (kSeq (some [0,3,5,6]) (jF Γ n2 j6_3) (fK Γ 6 sf6 0))))
def l6_1:=lK Γ n0 [0,3,5,6,8] khU [(0,vo (zi x0)),(3,zP),(5,vo (X.own 0 28 8 r1)),(6,vo (X.nilL 2)),(8,vo (zi x2))] [(0,wm4 r3 r4 x5 x6 s7 r8 r9 r10 x11 x12)] [0] 1 1 0 (kBlk 2 (kSeq (some [0,5,6]) (jF Γ n2 j6_9) (fK Γ 6 sf6 0)))
def kmA:=lK Γ n0 [0,3,5,6,7] kpG [(0,vo (zi x0)),(3,zP),(5,vo (X.own 0 28 8 r1)),(6,vo (X.own 1 49 2 r2)),(7,vo (zi x3))] [(0,wm4 r4 r5 x6 x7 s8 r9 r10 r11 x12 x13)] [0,1] 1 2 0 (kBlk 0 (kSeq (some [0,3,5,6]) (jF Γ n2 j6_3) (fK Γ 6 sf6 0)))
def q6_4:=jN Γ n1 j6_4 [(0,vo (zi x0)),(3,zP),(5,vo (X.own 0 28 8 r1)),(6,vo (X.nilL 2)),(8,vo (zi x2))] [(0,wm4 r3 r4 x5 x6 s7 r8 r9 r10 x11 x12)] [0] 1 1 0 (kL Γ n1 [0,3,5,6,8] khU (kBlk 2 (kSeq (some [0,5,6]) (jF Γ n2 j6_9) (fK Γ 6 sf6 0))))
def q6_9:=jN Γ n1 j6_9 [(0,vo (zi x0)),(5,vo (X.own 0 28 8 r1)),(6,vo (X.nilL 2))] [] [0] 0 1 0 (fK Γ 6 sf6 0)
def ksU:=jN Γ n1 j6_1 [(0,vo (zi x0)),(3,zP),(5,vo (X.own 0 28 8 r1)),(6,vo (X.own 1 49 2 r2)),(7,vo (zi x3))] [(0,wm4 r4 r5 x6 x7 s8 r9 r10 r11 x12 x13)] [0,1] 1 2 0 (kL Γ n1 [0,3,5,6,7] kpG (kBlk 0 (kSeq (some [0,3,5,6]) (jF Γ n2 j6_3) (fK Γ 6 sf6 0))))
def ksV:=jN Γ n1 j6_3 [(0,vo (zi x0)),(3,zP),(5,vo (X.own 0 28 8 r1)),(6,vo (X.own 1 49 2 r2))] [(0,wm4 r3 r4 x5 x6 s7 r8 r9 r10 x11 x12)] [0,1] 1 2 0 (fK Γ 6 sf6 0)
def q6_5:=jN Γ n1 j6_5 [(0,vo (zi x0)),(3,zP),(5,vo (X.own 0 28 8 r1)),(6,vo (X.nilL 2)),(8,vo (zi x2))] [(0,wm4 r3 r4 x5 x6 s7 r8 r9 r10 x11 x12)] [0] 1 1 0 (kBlk 3 (kSeq (some [0,3,5,6,8]) (jF Γ n1 j6_8) (kL Γ n1 [0,3,5,6,8] khU (kBlk 2 (kSeq (some [0,5,6]) (jF Γ n2 j6_9) (fK Γ 6 sf6 0))))))
def e17:=rF Γ 17 sf17 n1 [vo (zi x0),vo (zl 8 r1)] []
def e18:=rF Γ 18 sf18 n1 [vo (zi x0),vo (X.nilL 2)] []
def kj1:=lK Γ n0 [0,3,5,6,8] khU [(0,vo (zi x0)),(3,zP),(5,vo (X.own 0 28 8 r1)),(6,vo (X.own 1 49 2 r2)),(8,vo (zi x3))] [(0,wm4 r4 r5 x6 x7 s8 r9 r10 r11 x12 x13)] [0,1] 1 2 0 (kBlk 2 (kSeq (some [0,5,6]) (jF Γ n2 j6_9) (fK Γ 6 sf6 0)))
def l6_2:=lK Γ n0 [0,3,5,6,8,9] kuQ [(0,vo (zi x0)),(3,zP),(5,vo (X.own 0 28 8 r1)),(6,vo (X.own 1 49 2 r2)),(8,vo (zi x3)),(9,vo (zi x4))] [(0,wm4 r5 r6 x7 x8 s9 r10 r11 r12 x13 x14)] [0,1] 1 2 0 (kBlk 4 (kBlk 3 (kSeq (some [0,3,5,6,8]) (jF Γ n2 j6_8) (kL Γ n2 [0,3,5,6,8] khU (kBlk 2 (kSeq (some [0,5,6]) (jF Γ n3 j6_9) (fK Γ 6 sf6 0)))))))
def kwc:=lK Γ n0 [0,1,5,6] knK [(0,vo (zi x0)),(1,vo (zl 8 r1)),(5,vo (zi x2)),(6,vo (zi x3))] [] [] 0 0 0 (kBlk 0 (kSeq (some [0,5]) (jF Γ n2 krL) (fK Γ 17 sf17 0)))
def kB8:=lK Γ n0 [0,1,5,6] kiS [(0,vo (zi x0)),(1,vo (X.nilL 2)),(5,vo (zi x1)),(6,vo (zi x2))] [] [] 0 0 0 (kBlk 0 (kSeq (some [0,5]) (jF Γ n2 klZ) (fK Γ 18 sf18 0)))
def ksW:=jN Γ n1 j6_4 [(0,vo (zi x0)),(3,zP),(5,vo (X.own 0 28 8 r1)),(6,vo (X.own 1 49 2 r2)),(8,vo (zi x3))] [(0,wm4 r4 r5 x6 x7 s8 r9 r10 r11 x12 x13)] [0,1] 1 2 0 (kL Γ n1 [0,3,5,6,8] khU (kBlk 2 (kSeq (some [0,5,6]) (jF Γ n2 j6_9) (fK Γ 6 sf6 0))))
def ksX:=jN Γ n1 j6_9 [(0,vo (zi x0)),(5,vo (X.own 0 28 8 r1)),(6,vo (X.own 1 49 2 r2))] [] [0,1] 0 2 0 (fK Γ 6 sf6 0)
def q6_6:=jN Γ n1 j6_6 [(0,vo (zi x0)),(3,zP),(5,vo (X.own 0 28 8 r1)),(6,vo (X.own 1 49 2 r2)),(8,vo (zi x3)),(9,vo (zi x4))] [(0,wm4 r5 r6 x7 x8 s9 r10 r11 r12 x13 x14)] [0,1] 1 2 0 (kL Γ n1 [0,3,5,6,8,9] kuQ (kBlk 4 (kBlk 3 (kSeq (some [0,3,5,6,8]) (jF Γ n2 j6_8) (kL Γ n2 [0,3,5,6,8] khU (kBlk 2 (kSeq (some [0,5,6]) (jF Γ n3 j6_9) (fK Γ 6 sf6 0))))))))
def q6_8:=jN Γ n1 j6_8 [(0,vo (zi x0)),(3,zP),(5,vo (X.own 0 28 8 r1)),(6,vo (X.own 1 49 2 r2)),(8,vo (zi x3))] [(0,wm4 r4 r5 x6 x7 s8 r9 r10 r11 x12 x13)] [0,1] 1 2 0 (kL Γ n1 [0,3,5,6,8] khU (kBlk 2 (kSeq (some [0,5,6]) (jF Γ n2 j6_9) (fK Γ 6 sf6 0))))
def kGv:=jN Γ n1 kD5 [(0,vo (zi x0)),(1,vo (zl 8 r1)),(5,vo (zi x2)),(6,vo (zi x3))] [] [] 0 0 0 (kL Γ n1 [0,1,5,6] knK (kBlk 0 (kSeq (some [0,5]) (jF Γ n2 krL) (fK Γ 17 sf17 0))))
def kGw:=jN Γ n1 krL [(0,vo (zi x0)),(5,vo (zi x1))] [] [] 0 0 0 (fK Γ 17 sf17 0)
def q18_0:=jN Γ n1 kAT [(0,vo (zi x0)),(1,vo (X.nilL 2)),(5,vo (zi x1)),(6,vo (zi x2))] [] [] 0 0 0 (kL Γ n1 [0,1,5,6] kiS (kBlk 0 (kSeq (some [0,5]) (jF Γ n2 klZ) (fK Γ 18 sf18 0))))
def kB9:=jN Γ n1 klZ [(0,vo (zi x0)),(5,vo (zi x1))] [] [] 0 0 0 (fK Γ 18 sf18 0)
def ksY:=jN Γ n1 j6_5 [(0,vo (zi x0)),(3,zP),(5,vo (X.own 0 28 8 r1)),(6,vo (X.own 1 49 2 r2)),(8,vo (zi x3))] [(0,wm4 r4 r5 x6 x7 s8 r9 r10 r11 x12 x13)] [0,1] 1 2 0 (kBlk 3 (kSeq (some [0,3,5,6,8]) (jF Γ n1 j6_8) (kL Γ n1 [0,3,5,6,8] khU (kBlk 2 (kSeq (some [0,5,6]) (jF Γ n2 j6_9) (fK Γ 6 sf6 0))))))
def ksZ:=rF Γ 18 sf18 n1 [vo (zi x0),vo (zl 2 r1)] []
def q6_7:=jN Γ n1 j6_7 [(0,vo (zi x0)),(3,zP),(5,vo (X.own 0 28 8 r1)),(6,vo (X.own 1 49 2 r2)),(8,vo (zi x3)),(9,vo (zi x4))] [(0,wm4 r5 r6 x7 x8 s9 r10 r11 r12 x13 x14)] [0,1] 1 2 0 (kL Γ n1 [0,3,5,6,8,9] kuQ (kBlk 4 (kBlk 3 (kSeq (some [0,3,5,6,8]) (jF Γ n2 j6_8) (kL Γ n2 [0,3,5,6,8] khU (kBlk 2 (kSeq (some [0,5,6]) (jF Γ n3 j6_9) (fK Γ 6 sf6 0))))))))
def e49:=rF Γ 49 sf49 n1 [vE x0 x1 s2 r3 r4 r5 x6 x7,vo (zi x8),vo (zi x9)] []
def kGx:=jN Γ n1 kD4 [(0,vo (zi x0)),(1,vo (zl 8 r1)),(5,vo (zi x2)),(6,vo (zi x3))] [] [] 0 0 0 (kL Γ n1 [0,1,5,6] knK (kBlk 0 (kSeq (some [0,5]) (jF Γ n2 krL) (fK Γ 17 sf17 0))))
def kgY:=lK Γ n0 [0,1,5,6] kiS [(0,vo (zi x0)),(1,vo (zl 2 r1)),(5,vo (zi x2)),(6,vo (zi x3))] [] [] 0 0 0 (kBlk 0 (kSeq (some [0,5]) (jF Γ n2 klZ) (fK Γ 18 sf18 0)))
def kwd:=lK Γ n0 [1,2,3,7] knT [(1,vo (zi x0)),(2,vo (zi x1)),(3,zP),(7,vo (zi x2))] [(0,wm5 x3 x4 s5 r6 r7 r8 x9 x10)] [] 1 0 0 (kBlk 0 (kSeq (some [1]) (jF Γ n2 krY) (fK Γ 49 sf49 0)))
def koA:=jN Γ n1 kAT [(0,vo (zi x0)),(1,vo (zl 2 r1)),(5,vo (zi x2)),(6,vo (zi x3))] [] [] 0 0 0 (kL Γ n1 [0,1,5,6] kiS (kBlk 0 (kSeq (some [0,5]) (jF Γ n2 klZ) (fK Γ 18 sf18 0))))
def kGy:=jN Γ n1 kEB [(1,vo (zi x0)),(2,vo (zi x1)),(3,zP),(7,vo (zi x2))] [(0,wm5 x3 x4 s5 r6 r7 r8 x9 x10)] [] 1 0 0 (kL Γ n1 [1,2,3,7] knT (kBlk 0 (kSeq (some [1]) (jF Γ n2 krY) (fK Γ 49 sf49 0))))
def kCa:=jN Γ n1 krY [(1,vo (zi x0))] [] [] 0 0 0 (fK Γ 49 sf49 0)
def ks0:=rF Γ 50 sf50 n1 [wg0 x0 r1,vo (zi x2),vo (zi x3)] []
def koB:=jN Γ n1 kD6 [(0,vo (zi x0)),(1,vo (zl 2 r1)),(5,vo (zi x2)),(6,vo (zi x3))] [] [] 0 0 0 (kL Γ n1 [0,1,5,6] kiS (kBlk 0 (kSeq (some [0,5]) (jF Γ n2 klZ) (fK Γ 18 sf18 0))))
def kGz:=jN Γ n1 kEA [(1,vo (zi x0)),(2,vo (zi x1)),(3,zP),(7,vo (zi x2))] [(0,wm5 x3 x4 s5 r6 r7 r8 x9 x10)] [] 1 0 0 (kL Γ n1 [1,2,3,7] knT (kBlk 0 (kSeq (some [1]) (jF Γ n2 krY) (fK Γ 49 sf49 0))))
def kgZ:=lK Γ n0 [1,2,3,7] knU [(1,vo (zi x0)),(2,vo (zi x1)),(3,zP),(7,vo (zi x2))] [(0,wm3 x3 r4)] [] 1 0 0 (kBlk 0 (kSeq (some [1]) (jF Γ n2 krZ) (fK Γ 50 sf50 0)))
def kGA:=jN Γ n1 kED [(1,vo (zi x0)),(2,vo (zi x1)),(3,zP),(7,vo (zi x2))] [(0,wm3 x3 r4)] [] 1 0 0 (kL Γ n1 [1,2,3,7] knU (kBlk 0 (kSeq (some [1]) (jF Γ n2 krZ) (fK Γ 50 sf50 0))))
def kCb:=jN Γ n1 krZ [(1,vo (zi x0))] [] [] 0 0 0 (fK Γ 50 sf50 0)
def kGB:=jN Γ n1 kEC [(1,vo (zi x0)),(2,vo (zi x1)),(3,zP),(7,vo (zi x2))] [(0,wm3 x3 r4)] [] 1 0 0 (kL Γ n1 [1,2,3,7] knU (kBlk 0 (kSeq (some [1]) (jF Γ n2 krZ) (fK Γ 50 sf50 0))))
theorem kCc:e6 Γ n1 x0 r1 r2 x3 x4 s5 r6 r7 r8 x9 x10=bif decide (iO (lN r1) > 100) then oR (vo (zb false)) else bif decide (iO (lN r2) > 100) then oR (vo (zb false)) else q6_0 Γ n1 x0 r1 r2 x3 x4 s5 r6 r7 r8 x9 x10:=(kag ..).trans (by kernel_rfl)
theorem kCd:q6_0 Γ n1 x0 r1 r2 x3 x4 s5 r6 r7 r8 x9 x10=l6_0 n1 Γ n1 x0 [dE x3 x4 s5 r6 r7 r8 x9 x10] 0 r1 r2 x3 x4 s5 r6 r7 r8 x9 x10:=(kaa ..).trans (by kernel_rfl)
theorem ks1:l6_0 (n0+1) Γ n2 x0 r1 x2 r3 r4 x5 x6 s7 r8 r9 r10 x11 x12=bif decide (x2 < iO (lN r3)) then q6_1 Γ n0 n2 x0 r1 x2 r3 r4 x5 x6 s7 r8 r9 r10 x11 x12 else q6_3 Γ n2 x0 r1 r3 r4 x5 x6 s7 r8 r9 r10 x11 x12:=(kah ..).trans (by kernel_rfl)
theorem kCe:q6_1 Γ n1 n2 x0 r1 x2 r3 r4 x5 x6 s7 r8 r9 r10 x11 x12=bif decide (0<=x2)&&decide (x2 < iO (lN r3)) then q6_2 Γ n1 n2 x0 r1 [[lG (lG r3 (iN x2) []) 1 dj,lG (lG r3 (iN x2) []) 2 dj]] x2 r3 r4 x5 x6 s7 r8 r9 r10 x11 x12 else none:=(kaa ..).trans (by kernel_rfl)
theorem kCf:q6_3 Γ n1 x0 r1 r2 r3 x4 x5 s6 r7 r8 r9 x10 x11=l6_1 n1 Γ n1 x0 r1 0 r2 r3 x4 x5 s6 r7 r8 r9 x10 x11:=(kaa ..).trans (by kernel_rfl)
theorem ks2:q6_2 Γ n1 n2 x0 r1 r2 x3 r4 r5 x6 x7 s8 r9 r10 r11 x12 x13=kmA n1 Γ n2 x0 r1 r2 (IntKind.wrap iK (x3+1)) r4 r5 x6 x7 s8 r9 r10 r11 x12 x13:=(kaa ..).trans (by kernel_rfl)
theorem kmB:l6_1 (n0+1) Γ n2 x0 r1 x2 r3 r4 x5 x6 s7 r8 r9 r10 x11 x12=bif decide (x2 < iO (lN r4)) then q6_4 Γ n0 n2 x0 r1 x2 r3 r4 x5 x6 s7 r8 r9 r10 x11 x12 else q6_9 Γ n2 x0 r1:=(kah ..).trans (by kernel_rfl)
theorem kiU:kmA (n0+1) Γ n2 x0 r1 r2 x3 r4 r5 x6 x7 s8 r9 r10 r11 x12 x13=bif decide (x3 < iO (lN r4)) then ksU Γ n0 n2 x0 r1 r2 x3 r4 r5 x6 x7 s8 r9 r10 r11 x12 x13 else ksV Γ n2 x0 r1 r2 r4 r5 x6 x7 s8 r9 r10 r11 x12 x13:=(kah ..).trans (by kernel_rfl)
theorem ks3:q6_4 Γ n1 n2 x0 r1 x2 r3 r4 x5 x6 s7 r8 r9 r10 x11 x12=bif decide (0<=x2)&&decide (x2 < iO (lN r4)) then bif D.isL (lG (lG r4 (iN x2) []) 1 dj) then bif decide (iO (lN (D.rows (lG (lG r4 (iN x2) []) 1 dj))) > 100) then oR (vo (zb false)) else q6_5 Γ n1 n2 x0 r1 x2 r3 r4 x5 x6 s7 r8 r9 r10 x11 x12 else none else none:=(kaa ..).trans (by kernel_rfl)
theorem kCg:q6_9 Γ n1 x0 r1=r_oB (Γ false 17 [vo (zi x0),vo (zl 8 r1)] []) (fun c0_=>bif c0_ then r_oB (Γ false 18 [vo (zi x0),vo (X.nilL 2)] []) (fun c2_=>oR (vo (zb c2_))) h0 else oR (vo (zb false))) h0:=(kaa ..).trans (by kernel_rfl)
theorem kpQ:ksU Γ n1 n2 x0 r1 r2 x3 r4 r5 x6 x7 s8 r9 r10 r11 x12 x13=bif decide (0<=x3)&&decide (x3 < iO (lN r4)) then bif true&&true&&true&&Nat.ble ((lN r2+lN [[lG (lG r4 (iN x3) []) 1 dj,lG (lG r4 (iN x3) []) 2 dj]])*33) 140737488355328 then q6_2 Γ n1 n2 x0 r1 (r2++[[lG (lG r4 (iN x3) []) 1 dj,lG (lG r4 (iN x3) []) 2 dj]]) x3 r4 r5 x6 x7 s8 r9 r10 r11 x12 x13 else none else none:=(kaa ..).trans (by kernel_rfl)
theorem kpR:ksV Γ n1 x0 r1 r2 r3 r4 x5 x6 s7 r8 r9 r10 x11 x12=kj1 n1 Γ n1 x0 r1 r2 0 r3 r4 x5 x6 s7 r8 r9 r10 x11 x12:=(kaa ..).trans (by kernel_rfl)
theorem kCh:q6_5 Γ n1 n2 x0 r1 x2 r3 r4 x5 x6 s7 r8 r9 r10 x11 x12=bif decide (0<=x2)&&decide (x2 < iO (lN r4)) then bif true&&true&&true&&Nat.ble ((lN r1+lN [[lG (lG r4 (iN x2) []) 4 dj,lG (lG r4 (iN x2) []) 5 dj,lG (lG r4 (iN x2) []) 6 dj,lG (lG r4 (iN x2) []) 7 dj,lG (lG r4 (iN x2) []) 8 dj,lG (lG r4 (iN x2) []) 9 dj,lG (lG r4 (iN x2) []) 10 dj,lG (lG r4 (iN x2) []) 11 dj]])*121) 140737488355328 then bif decide (0<=x2)&&decide (x2 < iO (lN r4)) then l6_2 n1 Γ n1 n2 x0 (r1++[[lG (lG r4 (iN x2) []) 4 dj,lG (lG r4 (iN x2) []) 5 dj,lG (lG r4 (iN x2) []) 6 dj,lG (lG r4 (iN x2) []) 7 dj,lG (lG r4 (iN x2) []) 8 dj,lG (lG r4 (iN x2) []) 9 dj,lG (lG r4 (iN x2) []) 10 dj,lG (lG r4 (iN x2) []) 11 dj]]) [[lG (lG r4 (iN x2) []) 2 dj,lG (lG r4 (iN x2) []) 3 dj]] x2 0 r3 r4 x5 x6 s7 r8 r9 r10 x11 x12 else none else none else none:=(kaa ..).trans (by kernel_rfl)
theorem kGC:e17 Γ n1 x0 r1=kwc n1 Γ n1 x0 r1 0 0:=(kag ..).trans (by kernel_rfl)
theorem kGD:e18 Γ n1 x0=kB8 n1 Γ n1 x0 0 0:=(kag ..).trans (by kernel_rfl)
theorem kgm:kj1 (n0+1) Γ n2 x0 r1 r2 x3 r4 r5 x6 x7 s8 r9 r10 r11 x12 x13=bif decide (x3 < iO (lN r5)) then ksW Γ n0 n2 x0 r1 r2 x3 r4 r5 x6 x7 s8 r9 r10 r11 x12 x13 else ksX Γ n2 x0 r1 r2:=(kah ..).trans (by kernel_rfl)
theorem ks4:l6_2 (n0+1) Γ n2 n3 x0 r1 r2 x3 x4 r5 r6 x7 x8 s9 r10 r11 r12 x13 x14=bif decide (0<=x3)&&decide (x3 < iO (lN r6)) then bif D.isL (lG (lG r6 (iN x3) []) 1 dj) then bif decide (x4 < iO (lN (D.rows (lG (lG r6 (iN x3) []) 1 dj)))) then q6_6 Γ n0 n2 n3 x0 r1 r2 x3 x4 r5 r6 x7 x8 s9 r10 r11 r12 x13 x14 else q6_8 Γ n2 n3 x0 r1 r2 x3 r5 r6 x7 x8 s9 r10 r11 r12 x13 x14 else none else none:=(kah ..).trans (by kernel_rfl)
theorem koC:kwc (n0+1) Γ n2 x0 r1 x2 x3=bif decide (x3 < iO (lN r1)) then kGv Γ n0 n2 x0 r1 x2 x3 else kGw Γ n2 x0 x2:=(kah ..).trans (by kernel_rfl)
theorem kwe:kB8 (n0+1) Γ n2 x0 x1 x2=bif decide (x2 < 0) then q18_0 Γ n0 n2 x0 x1 x2 else kB9 Γ n2 x0 x1:=(kah ..).trans (by kernel_rfl)
theorem kiV:ksW Γ n1 n2 x0 r1 r2 x3 r4 r5 x6 x7 s8 r9 r10 r11 x12 x13=bif decide (0<=x3)&&decide (x3 < iO (lN r5)) then bif D.isL (lG (lG r5 (iN x3) []) 1 dj) then bif decide (iO (lN (D.rows (lG (lG r5 (iN x3) []) 1 dj))) > 100) then oR (vo (zb false)) else ksY Γ n1 n2 x0 r1 r2 x3 r4 r5 x6 x7 s8 r9 r10 r11 x12 x13 else none else none:=(kaa ..).trans (by kernel_rfl)
theorem kpS:ksX Γ n1 x0 r1 r2=r_oB (Γ false 17 [vo (zi x0),vo (zl 8 r1)] []) (fun c0_=>bif c0_ then r_oB (Γ false 18 [vo (zi x0),vo (zl 2 r2)] []) (fun c2_=>oR (vo (zb c2_))) h0 else oR (vo (zb false))) h0:=(kaa ..).trans (by kernel_rfl)
theorem kCi:q6_6 Γ n1 n2 n3 x0 r1 r2 x3 x4 r5 r6 x7 x8 s9 r10 r11 r12 x13 x14=bif decide (0<=x3)&&decide (x3 < iO (lN r6)) then bif D.isList 5 (lG (lG r6 (iN x3) []) 1 dj) then bif decide (0<=x4)&&decide (x4 < iO (lN (D.rows (lG (lG r6 (iN x3) []) 1 dj)))) then bif true&&true&&true&&Nat.ble ((lN r2+lN [[lG (lG (D.rows (lG (lG r6 (iN x3) []) 1 dj)) (iN x4) []) 1 dj,lG (lG (D.rows (lG (lG r6 (iN x3) []) 1 dj)) (iN x4) []) 2 dj]])*33) 140737488355328 then q6_7 Γ n1 n2 n3 x0 r1 (r2++[[lG (lG (D.rows (lG (lG r6 (iN x3) []) 1 dj)) (iN x4) []) 1 dj,lG (lG (D.rows (lG (lG r6 (iN x3) []) 1 dj)) (iN x4) []) 2 dj]]) x3 x4 r5 r6 x7 x8 s9 r10 r11 r12 x13 x14 else none else none else none else none:=(kaa ..).trans (by kernel_rfl)
theorem ks5:q6_8 Γ n1 n2 x0 r1 r2 x3 r4 r5 x6 x7 s8 r9 r10 r11 x12 x13=kj1 n1 Γ n2 x0 r1 r2 (IntKind.wrap iK (x3+1)) r4 r5 x6 x7 s8 r9 r10 r11 x12 x13:=(kaa ..).trans (by kernel_rfl)
theorem kwf:kGv Γ n1 n2 x0 r1 x2 x3=bif decide (0<=x3)&&decide (x3 < iO (lN r1)) then r_oI (Γ false 49 [V.agg [X.d (lG (lG r1 (iN x3) []) 0 dj),X.d (lG (lG r1 (iN x3) []) 1 dj),X.d (lG (lG r1 (iN x3) []) 2 dj),X.d (lG (lG r1 (iN x3) []) 3 dj),X.d (lG (lG r1 (iN x3) []) 4 dj),X.d (lG (lG r1 (iN x3) []) 5 dj),X.d (lG (lG r1 (iN x3) []) 6 dj),X.d (lG (lG r1 (iN x3) []) 7 dj)],vo (zi x2),vo (zi x0)] []) (fun i0_=>kGx Γ n1 n2 x0 r1 i0_ x3) h0 else none:=(kaa ..).trans (by kernel_rfl)
theorem kwg:kGw Γ n1 x0 x1=oR (vo (zb (decide (x1<=x0)))):=(kaa ..).trans (by kernel_rfl)
theorem koD:kB9 Γ n1 x0 x1=oR (vo (zb (decide (x1<=x0)))):=(kaa ..).trans (by kernel_rfl)
theorem kpT:ksY Γ n1 n2 x0 r1 r2 x3 r4 r5 x6 x7 s8 r9 r10 r11 x12 x13=bif decide (0<=x3)&&decide (x3 < iO (lN r5)) then bif true&&true&&true&&Nat.ble ((lN r1+lN [[lG (lG r5 (iN x3) []) 4 dj,lG (lG r5 (iN x3) []) 5 dj,lG (lG r5 (iN x3) []) 6 dj,lG (lG r5 (iN x3) []) 7 dj,lG (lG r5 (iN x3) []) 8 dj,lG (lG r5 (iN x3) []) 9 dj,lG (lG r5 (iN x3) []) 10 dj,lG (lG r5 (iN x3) []) 11 dj]])*121) 140737488355328 then bif decide (0<=x3)&&decide (x3 < iO (lN r5)) then bif true&&true&&true&&Nat.ble ((lN r2+lN [[lG (lG r5 (iN x3) []) 2 dj,lG (lG r5 (iN x3) []) 3 dj]])*33) 140737488355328 then l6_2 n1 Γ n1 n2 x0 (r1++[[lG (lG r5 (iN x3) []) 4 dj,lG (lG r5 (iN x3) []) 5 dj,lG (lG r5 (iN x3) []) 6 dj,lG (lG r5 (iN x3) []) 7 dj,lG (lG r5 (iN x3) []) 8 dj,lG (lG r5 (iN x3) []) 9 dj,lG (lG r5 (iN x3) []) 10 dj,lG (lG r5 (iN x3) []) 11 dj]]) (r2++[[lG (lG r5 (iN x3) []) 2 dj,lG (lG r5 (iN x3) []) 3 dj]]) x3 0 r4 r5 x6 x7 s8 r9 r10 r11 x12 x13 else none else none else none else none:=(kaa ..).trans (by kernel_rfl)
theorem ks6:ksZ Γ n1 x0 r1=kgY n1 Γ n1 x0 r1 0 0:=(kag ..).trans (by kernel_rfl)
theorem kCj:q6_7 Γ n1 n2 n3 x0 r1 r2 x3 x4 r5 r6 x7 x8 s9 r10 r11 r12 x13 x14=l6_2 n1 Γ n2 n3 x0 r1 r2 x3 (IntKind.wrap iK (x4+1)) r5 r6 x7 x8 s9 r10 r11 r12 x13 x14:=(kaa ..).trans (by kernel_rfl)
theorem kGE:e49 Γ n1 x0 x1 s2 r3 r4 r5 x6 x7 x8 x9=kwd n1 Γ n1 (IntKind.wrap iK (IntKind.wrap iK (IntKind.wrap iK (x8+1)+iO (lN r3))+iO (lN r4))) x9 0 x0 x1 s2 r3 r4 r5 x6 x7:=(kag ..).trans (by kernel_rfl)
theorem kwh:kGx Γ n1 n2 x0 r1 x2 x3=kwc n1 Γ n2 x0 r1 x2 (IntKind.wrap iK (x3+1)):=(kaa ..).trans (by kernel_rfl)
theorem kh6:kgY (n0+1) Γ n2 x0 r1 x2 x3=bif decide (x3 < iO (lN r1)) then koA Γ n0 n2 x0 r1 x2 x3 else kB9 Γ n2 x0 x2:=(kah ..).trans (by kernel_rfl)
theorem kj2:kwd (n0+1) Γ n2 x0 x1 x2 x3 x4 s5 r6 r7 r8 x9 x10=bif decide (x2 < iO (lN r8)) then bif decide (x0<=x1) then kGy Γ n0 n2 x0 x1 x2 x3 x4 s5 r6 r7 r8 x9 x10 else kCa Γ n2 x0 else kCa Γ n2 x0:=(kah ..).trans (by kernel_rfl)
theorem kmC:koA Γ n1 n2 x0 r1 x2 x3=bif decide (0<=x3)&&decide (x3 < iO (lN r1)) then r_oI (Γ false 50 [V.agg [X.d (lG (lG r1 (iN x3) []) 0 dj),X.d (lG (lG r1 (iN x3) []) 1 dj)],vo (zi x2),vo (zi x0)] []) (fun i0_=>koB Γ n1 n2 x0 r1 i0_ x3) h0 else none:=(kaa ..).trans (by kernel_rfl)
theorem kwi:kGy Γ n1 n2 x0 x1 x2 x3 x4 s5 r6 r7 r8 x9 x10=bif decide (0<=x2)&&decide (x2 < iO (lN r8)) then r_oI (Γ false 49 [V.agg [X.d (lG (lG r8 (iN x2) []) 0 dj),X.d (lG (lG r8 (iN x2) []) 1 dj),X.d (lG (lG r8 (iN x2) []) 2 dj),X.d (lG (lG r8 (iN x2) []) 3 dj),X.d (lG (lG r8 (iN x2) []) 4 dj),X.d (lG (lG r8 (iN x2) []) 5 dj),X.d (lG (lG r8 (iN x2) []) 6 dj),X.d (lG (lG r8 (iN x2) []) 7 dj)],vo (zi x0),vo (zi x1)] []) (fun i0_=>kGz Γ n1 n2 i0_ x1 x2 x3 x4 s5 r6 r7 r8 x9 x10) h0 else none:=(kaa ..).trans (by kernel_rfl)
theorem koE:kCa Γ n1 x0=oR (vo (zi x0)):=(kaa ..).trans (by kernel_rfl)
theorem ks7:ks0 Γ n1 x0 r1 x2 x3=kgZ n1 Γ n1 (IntKind.wrap iK (x2+1)) x3 0 x0 r1:=(kag ..).trans (by kernel_rfl)
theorem kmD:koB Γ n1 n2 x0 r1 x2 x3=kgY n1 Γ n2 x0 r1 x2 (IntKind.wrap iK (x3+1)):=(kaa ..).trans (by kernel_rfl)
theorem kwj:kGz Γ n1 n2 x0 x1 x2 x3 x4 s5 r6 r7 r8 x9 x10=kwd n1 Γ n2 x0 x1 (IntKind.wrap iK (x2+1)) x3 x4 s5 r6 r7 r8 x9 x10:=(kaa ..).trans (by kernel_rfl)
theorem ke4:kgZ (n0+1) Γ n2 x0 x1 x2 x3 r4=bif decide (x2 < iO (lN r4)) then bif decide (x0<=x1) then kGA Γ n0 n2 x0 x1 x2 x3 r4 else kCb Γ n2 x0 else kCb Γ n2 x0:=(kah ..).trans (by kernel_rfl)
theorem kwk:kGA Γ n1 n2 x0 x1 x2 x3 r4=bif decide (0<=x2)&&decide (x2 < iO (lN r4)) then r_oI (Γ false 50 [V.agg [X.d (lG (lG r4 (iN x2) []) 0 dj),X.d (lG (lG r4 (iN x2) []) 1 dj)],vo (zi x0),vo (zi x1)] []) (fun i0_=>kGB Γ n1 n2 i0_ x1 x2 x3 r4) h0 else none:=(kaa ..).trans (by kernel_rfl)
theorem koF:kCb Γ n1 x0=oR (vo (zi x0)):=(kaa ..).trans (by kernel_rfl)
theorem kwl:kGB Γ n1 n2 x0 x1 x2 x3 r4=kgZ n1 Γ n2 x0 x1 (IntKind.wrap iK (x2+1)) x3 r4:=(kaa ..).trans (by kernel_rfl)
theorem kCk {o:Out} (h:Ev (fun _ k n=>e6 (Ak k) n x0 r1 r2 x3 x4 s5 r6 r7 r8 x9 x10) o):Cal 6 [vo (zi x0),wg1 r1 r2 x3 x4 s5 r6 r7 r8 x9 x10] [] o:=Ev.call (E:=fun Γ n1=>e6 Γ n1 x0 r1 r2 x3 x4 s5 r6 r7 r8 x9 x10) (fun k=>kae (by kernel_rfl) rfl) h
theorem kGF {o:Out} (h:Ev (fun _ k n=>e17 (Ak k) n x0 r1) o):Cal 17 [vo (zi x0),vo (zl 8 r1)] [] o:=Ev.call (E:=fun Γ n1=>e17 Γ n1 x0 r1) (fun k=>kae (by kernel_rfl) rfl) h
theorem kGG {o:Out} (h:Ev (fun _ k n=>e18 (Ak k) n x0) o):Cal 18 [vo (zi x0),vo (X.nilL 2)] [] o:=Ev.call (E:=fun Γ n1=>e18 Γ n1 x0) (fun k=>kae (by kernel_rfl) rfl) h
theorem ks8 {o:Out} (h:Ev (fun _ k n=>ksZ (Ak k) n x0 r1) o):Cal 18 [vo (zi x0),vo (zl 2 r1)] [] o:=Ev.call (E:=fun Γ n1=>ksZ Γ n1 x0 r1) (fun k=>kae (by kernel_rfl) rfl) h
theorem kGH {o:Out} (h:Ev (fun _ k n=>e49 (Ak k) n x0 x1 s2 r3 r4 r5 x6 x7 x8 x9) o):Cal 49 [vE x0 x1 s2 r3 r4 r5 x6 x7,vo (zi x8),vo (zi x9)] [] o:=Ev.call (E:=fun Γ n1=>e49 Γ n1 x0 x1 s2 r3 r4 r5 x6 x7 x8 x9) (fun k=>kae (by kernel_rfl) rfl) h
theorem ks9 {o:Out} (h:Ev (fun _ k n=>ks0 (Ak k) n x0 r1 x2 x3) o):Cal 50 [wg0 x0 r1,vo (zi x2),vo (zi x3)] [] o:=Ev.call (E:=fun Γ n1=>ks0 Γ n1 x0 r1 x2 x3) (fun k=>kae (by kernel_rfl) rfl) h
end
end Go.Proofs.YtaphnbaiamnfpaaGreatDoor.Ps
