/- What the pieces of the functions do, as functions of their data. Printed by pack4.py. -/
import Derived.Test.YtaphnbaiamnfpaaDoorPv0
namespace Go.Proofs.YtaphnbaiamnfpaaDoor.Ps
set_option maxHeartbeats 0
set_option maxRecDepth 100000
set_option linter.unusedVariables false
open Go Go.RowKit
open Go.IntKind renaming i64 → iK, u8 → uK
noncomputable def e4 (Γ : Bool → SemL) (n1 : Nat) (x0 x1 : Int) (s2 : ByteArray) (r3 r4 r5 : LL) (x6 x7 : Int) : Option Out := runF Γ shp rc false (shp 4) sf4 n1 [vE x0 x1 s2 r3 r4 r5 x6 x7] []
noncomputable def q4_0 (Γ : Bool → SemL) (n1 : Nat) (x0 x1 : Int) (s2 : ByteArray) (r3 r4 r5 : LL) (x6 x7 : Int) : Option Out := Jn (Γ false) shp n1 j4_0 (St.mk [(1, zP)] [(0, Blk.mk zE [zi x0, zi x1, zs s2, zl 1 r3, zl 1 r4, zl 8 r5, zi x6, zi x7])] [] 1 0 0 []) (finK (Γ true) rc false (shp 4) (SFunc.results sf4) 0)
theorem e4_eq (Γ n1 x0 x1 s2 r3 r4 r5 x6 x7) : e4 Γ n1 x0 x1 s2 r3 r4 r5 x6 x7 = r_oB (Γ false 13 [V.one (zi 8000), V.one (X.d (D.list 8 [dE x0 x1 s2 r3 r4 r5 x6 x7]))] []) (fun c0_ => bif !c0_ then r_oB (Γ false 8 [] []) (fun c2_ => some (Out.mk true (V.one (zb c2_)) D.junk [] 0)) h0 else q4_0 Γ n1 x0 x1 s2 r3 r4 r5 x6 x7) h0 := (run_step ..).trans (by kernel_rfl)
theorem q4_0_eq (Γ n1 x0 x1 s2 r3 r4 r5 x6 x7) : q4_0 Γ n1 x0 x1 s2 r3 r4 r5 x6 x7 = r_t2oSoI (Γ false 14 [vE x0 x1 s2 r3 r4 r5 x6 x7] []) (fun u0_ i1_ => r_t2oSoI (Γ false 15 [vE x0 x1 s2 r3 r4 r5 x6 x7] []) (fun u3_ i4_ => bif beqL (Array.toList (ByteArray.data u0_)) (Array.toList (ByteArray.data u3_)) then bif i1_ == i4_ then r_oB (Γ false 8 [] []) (fun c6_ => some (Out.mk true (V.one (zb c6_)) D.junk [] 0)) h0 else some (Out.mk true (V.one (zb false)) D.junk [] 0) else some (Out.mk true (V.one (zb false)) D.junk [] 0)) h0) h0 := (Jn_step ..).trans (by kernel_rfl)
theorem call4 (x0 x1 : Int) (s2 : ByteArray) (r3 r4 r5 : LL) (x6 x7 : Int) {o : Out} (h : Ev (fun _ k n => e4 (Ak k) n x0 x1 s2 r3 r4 r5 x6 x7) o) : Cal 4 [vE x0 x1 s2 r3 r4 r5 x6 x7] [] o := Ev.call (E := fun Γ n1 => e4 Γ n1 x0 x1 s2 r3 r4 r5 x6 x7) (fun k => call_step (by kernel_rfl) rfl) h
end Go.Proofs.YtaphnbaiamnfpaaDoor.Ps
