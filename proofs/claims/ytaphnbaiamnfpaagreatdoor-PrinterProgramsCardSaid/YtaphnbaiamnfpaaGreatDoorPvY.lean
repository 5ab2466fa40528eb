/- What the pieces of the functions do, as functions of their data. Printed by pack4.py. -/
import Derived.Test.YtaphnbaiamnfpaaGreatDoorPv0
namespace Go.Proofs.YtaphnbaiamnfpaaGreatDoor.Ps
set_option maxHeartbeats 0
set_option maxRecDepth 100000
set_option linter.unusedVariables false
open Go Go.RowKit
open Go.IntKind renaming i64 → iK, u8 → uK
noncomputable section
variable (Γ : SM) (n1 : Nat) (r0 r1 : LL) (x2 x3 : Int) (s4 : ByteArray) (r5 r6 r7 : LL) (x8 x9 : Int)
def e3 := rF Γ 3 sf3 n1 [wg1 r0 r1 x2 x3 s4 r5 r6 r7 x8 x9] []
def q3_0 := jN Γ n1 j3_0 [(1, zP)] [(0, wm3 r0 r1 x2 x3 s4 r5 r6 r7 x8 x9)] [] 1 0 0 (fK Γ 3 sf3 0)
theorem e3_eq : e3 Γ n1 r0 r1 x2 x3 s4 r5 r6 r7 x8 x9 = r_oB (Γ false 6 [V.one (zi 8000), wg1 r0 r1 x2 x3 s4 r5 r6 r7 x8 x9] []) (fun c0_ => bif !c0_ then r_oB (Γ false 7 [] []) (fun c2_ => oR (V.one (zb c2_))) h0 else q3_0 Γ n1 r0 r1 x2 x3 s4 r5 r6 r7 x8 x9) h0 := (run_step ..).trans (by kernel_rfl)
theorem q3_0_eq : q3_0 Γ n1 r0 r1 x2 x3 s4 r5 r6 r7 x8 x9 = r_t2oSoI (Γ false 8 [wg1 r0 r1 x2 x3 s4 r5 r6 r7 x8 x9] []) (fun u0_ i1_ => r_t2oSoI (Γ false 9 [wg1 r0 r1 x2 x3 s4 r5 r6 r7 x8 x9] []) (fun u3_ i4_ => bif beqL (Array.toList (ByteArray.data u0_)) (Array.toList (ByteArray.data u3_)) then bif i1_ == i4_ then r_oB (Γ false 7 [] []) (fun c6_ => oR (V.one (zb c6_))) h0 else oR (V.one (zb false)) else oR (V.one (zb false))) h0) h0 := (Jn_step ..).trans (by kernel_rfl)
theorem call3 {o : Out} (h : Ev (fun _ k n => e3 (Ak k) n r0 r1 x2 x3 s4 r5 r6 r7 x8 x9) o) : Cal 3 [wg1 r0 r1 x2 x3 s4 r5 r6 r7 x8 x9] [] o := Ev.call (E := fun Γ n1 => e3 Γ n1 r0 r1 x2 x3 s4 r5 r6 r7 x8 x9) (fun k => call_step (by kernel_rfl) rfl) h
end
end Go.Proofs.YtaphnbaiamnfpaaGreatDoor.Ps
