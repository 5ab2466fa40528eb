/- What the pieces of the functions do, as functions of their data. Printed by pack4.py. -/
import Derived.Test.YtaphnbaiamnfpaaGreatDoorPv0
namespace Go.Proofs.YtaphnbaiamnfpaaGreatDoor.Ps
set_option maxHeartbeats 0
set_option maxRecDepth 100000
set_option linter.unusedVariables false
open Go Go.RowKit
open Go.IntKind renaming i64 -> iK, u8 -> uK
noncomputable section
variable (Γ:SM) (n1:Nat) (r0:LL) (s0:ByteArray) (r1:LL) (x2:Int) (r2:LL) (x3:Int) (s4:ByteArray) (x4:Int) (r5:LL) (s5:ByteArray) (r6 r7:LL) (x8:Int) (r8:LL) (x9 x10:Int)
def e5:=rF Γ 5 sf5 n1 [wg1 r0 r1 x2 x3 s4 r5 r6 r7 x8 x9] []
def q5_0:=jN Γ n1 j5_0 [(1,zP)] [(0,wm4 r0 r1 x2 x3 s4 r5 r6 r7 x8 x9)] [] 1 0 0 (fK Γ 5 sf5 0)
def q5_1:=jN Γ n1 j5_1 [(1,zP),(3,V.one (zs s0))] [(0,wm4 r1 r2 x3 x4 s5 r6 r7 r8 x9 x10)] [] 1 0 0 (fK Γ 5 sf5 0)
theorem e5_eq:e5 Γ n1 r0 r1 x2 x3 s4 r5 r6 r7 x8 x9=r_oB (Γ false 6 [V.one (zi 2000),wg1 r0 r1 x2 x3 s4 r5 r6 r7 x8 x9] []) (fun c0_=>bif !c0_ then r_oB (Γ false 7 [] []) (fun c2_=>oR (V.one (zb c2_))) h0 else q5_0 Γ n1 r0 r1 x2 x3 s4 r5 r6 r7 x8 x9) h0:=(kag ..).trans (by kernel_rfl)
theorem kCl:q5_0 Γ n1 r0 r1 x2 x3 s4 r5 r6 r7 x8 x9=kgS (Γ false 8 [wg1 r0 r1 x2 x3 s4 r5 r6 r7 x8 x9] []) (fun u0_ i1_=>bif i1_ != 0 then bif beqL (Array.toList (ByteArray.data u0_)) (Array.toList (ByteArray.data (ByteArray.mk #[]))) then r_oB (Γ false 11 [wg1 r0 r1 x2 x3 s4 r5 r6 r7 x8 x9] []) (fun c3_=>bif (i1_==1)==!c3_ then r_oB (Γ false 7 [] []) (fun c5_=>oR (V.one (zb c5_))) h0 else oR (V.one (zb false))) h0 else oR (V.one (zb false)) else q5_1 Γ n1 u0_ r0 r1 x2 x3 s4 r5 r6 r7 x8 x9) h0:=(kaa ..).trans (by kernel_rfl)
theorem kCm:q5_1 Γ n1 s0 r1 r2 x3 x4 s5 r6 r7 r8 x9 x10=ka1 (Γ false 10 [V.one (zs s0)] []) (fun w0_ w1_ i2_ i3_ u4_ w5_ w6_ w7_ i8_ i9_ i10_ u11_ i12_ i13_=>kgS (Γ false 14 [vE x3 x4 s5 r6 r7 r8 x9 x10] []) (fun u15_ i16_=>kbp (Γ false 15 [V.one (zs u15_)] []) (fun i18_ i19_ u20_ w21_ w22_ w23_ i24_ i25_ i26_ u27_ i28_ i29_=>bif i10_==0 then r_oB (Γ false 13 [wg1 r1 r2 x3 x4 s5 r6 r7 r8 x9 x10,wg1 w0_ w1_ i2_ i3_ u4_ w5_ w6_ w7_ i8_ i9_] []) (fun c31_=>bif c31_ then bif i16_==0 then bif i26_==0 then r_oB (Γ false 16 [vE i18_ i19_ u20_ w21_ w22_ w23_ i24_ i25_,vE x3 x4 s5 r6 r7 r8 x9 x10] []) (fun c33_=>bif c33_ then r_oB (Γ false 7 [] []) (fun c35_=>oR (V.one (zb c35_))) h0 else oR (V.one (zb false))) h0 else oR (V.one (zb false)) else oR (V.one (zb false)) else oR (V.one (zb false))) h0 else oR (V.one (zb false))) h0) h0) h0:=(kaa ..).trans (by kernel_rfl)
theorem call5 {o:Out} (h:Ev (fun _ k n=>e5 (Ak k) n r0 r1 x2 x3 s4 r5 r6 r7 x8 x9) o):Cal 5 [wg1 r0 r1 x2 x3 s4 r5 r6 r7 x8 x9] [] o:=Ev.call (E:=fun Γ n1=>e5 Γ n1 r0 r1 x2 x3 s4 r5 r6 r7 x8 x9) (fun k=>kae (by kernel_rfl) rfl) h
end
end Go.Proofs.YtaphnbaiamnfpaaGreatDoor.Ps
