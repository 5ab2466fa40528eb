/- What the pieces of the functions do, as functions of their data. Printed by pack4.py. -/
import Derived.Test.YtaphnbaiamnfpaaDoorPv0
namespace Go.Proofs.YtaphnbaiamnfpaaDoor.Ps
set_option maxHeartbeats 0
set_option maxRecDepth 100000
set_option linter.unusedVariables false
open Go Go.RowKit
noncomputable def e3 (Γ : Bool → SemL) (n1 : Nat) (r0 : List (List D)) (r1 : List (List D)) (x2 : Int) (x3 : Int) (s4 : ByteArray) (r5 : List (List D)) (r6 : List (List D)) (r7 : List (List
  D)) (x8 : Int) (x9 : Int) : Option Out := runF Γ shp rc false (shp 3) sf3 n1 [V.agg [X.d (D.list 5 r0), X.d (D.list 14 r1), X.d (D.int IntKind.i64 x2), X.d (D.int IntKind.i64 x3), X.d
  (D.str s4), X.d (D.list 1 r5), X.d (D.list 1 r6), X.d (D.list 8 r7), X.d (D.int IntKind.i64 x8), X.d (D.int IntKind.i64 x9)]] []
noncomputable def q3_0 (Γ : Bool → SemL) (n1 : Nat) (r0 : List (List D)) (r1 : List (List D)) (x2 : Int) (x3 : Int) (s4 : ByteArray) (r5 : List (List D)) (r6 : List (List D)) (r7 : List (List
  D)) (x8 : Int) (x9 : Int) : Option Out := Jn (Γ false) shp n1 j3_0 (St.mk [(1, V.one (X.ptr 0 0))] [(0, Blk.mk [Lf.lst 5, Lf.lst 14, Lf.int IntKind.i64, Lf.int IntKind.i64, Lf.str, Lf.lst
  1, Lf.lst 1, Lf.lst 8, Lf.int IntKind.i64, Lf.int IntKind.i64] [X.d (D.list 5 r0), X.d (D.list 14 r1), X.d (D.int IntKind.i64 x2), X.d (D.int IntKind.i64 x3), X.d (D.str s4), X.d (D.list 1
  r5), X.d (D.list 1 r6), X.d (D.list 8 r7), X.d (D.int IntKind.i64 x8), X.d (D.int IntKind.i64 x9)])] [] 1 0 0 []) (finK (Γ true) rc false (shp 3) (SFunc.results sf3) 0)
theorem e3_eq (Γ : Bool → SemL) (n1 : Nat) (r0 : List (List D)) (r1 : List (List D)) (x2 : Int) (x3 : Int) (s4 : ByteArray) (r5 : List (List D)) (r6 : List (List D)) (r7 : List (List D)) (x8
  : Int) (x9 : Int) : e3 Γ n1 r0 r1 x2 x3 s4 r5 r6 r7 x8 x9 = r_oB (Γ false 7 [V.one (X.d (D.int IntKind.i64 2000)), V.agg [X.d (D.list 5 r0), X.d (D.list 14 r1), X.d (D.int IntKind.i64 x2),
  X.d (D.int IntKind.i64 x3), X.d (D.str s4), X.d (D.list 1 r5), X.d (D.list 1 r6), X.d (D.list 8 r7), X.d (D.int IntKind.i64 x8), X.d (D.int IntKind.i64 x9)]] []) (fun c0_ => bif !c0_ then
  r_oB (Γ false 8 [] []) (fun c2_ => some (Out.mk true (V.one (X.d (D.bool c2_))) D.junk [] 0)) fun d3_ => some (Out.mk false V.junk d3_ [] 0) else q3_0 Γ n1 r0 r1 x2 x3 s4 r5 r6 r7 x8 x9)
  fun d1_ => some (Out.mk false V.junk d1_ [] 0) := (run_step ..).trans (by kernel_rfl)
theorem q3_0_eq (Γ : Bool → SemL) (n1 : Nat) (r0 : List (List D)) (r1 : List (List D)) (x2 : Int) (x3 : Int) (s4 : ByteArray) (r5 : List (List D)) (r6 : List (List D)) (r7 : List (List D))
  (x8 : Int) (x9 : Int) : q3_0 Γ n1 r0 r1 x2 x3 s4 r5 r6 r7 x8 x9 = r_oB (Γ false 9 [V.agg [X.d (D.list 5 r0), X.d (D.list 14 r1), X.d (D.int IntKind.i64 x2), X.d (D.int IntKind.i64 x3), X.d
  (D.str s4), X.d (D.list 1 r5), X.d (D.list 1 r6), X.d (D.list 8 r7), X.d (D.int IntKind.i64 x8), X.d (D.int IntKind.i64 x9)]] []) (fun c0_ => r_oB (Γ false 10 [V.agg [X.d (D.list 5 r0), X.d
  (D.list 14 r1), X.d (D.int IntKind.i64 x2), X.d (D.int IntKind.i64 x3), X.d (D.str s4), X.d (D.list 1 r5), X.d (D.list 1 r6), X.d (D.list 8 r7), X.d (D.int IntKind.i64 x8), X.d (D.int
  IntKind.i64 x9)]] []) (fun c2_ => bif c0_ == c2_ then r_oB (Γ false 11 [V.agg [X.d (D.int IntKind.i64 x2), X.d (D.int IntKind.i64 x3), X.d (D.str s4), X.d (D.list 1 r5), X.d (D.list 1 r6),
  X.d (D.list 8 r7), X.d (D.int IntKind.i64 x8), X.d (D.int IntKind.i64 x9)]] []) (fun c4_ => r_oB (Γ false 12 [V.agg [X.d (D.int IntKind.i64 x2), X.d (D.int IntKind.i64 x3), X.d (D.str s4),
  X.d (D.list 1 r5), X.d (D.list 1 r6), X.d (D.list 8 r7), X.d (D.int IntKind.i64 x8), X.d (D.int IntKind.i64 x9)]] []) (fun c6_ => bif c4_ == c6_ then r_oB (Γ false 8 [] []) (fun c8_ => some
  (Out.mk true (V.one (X.d (D.bool c8_))) D.junk [] 0)) fun d9_ => some (Out.mk false V.junk d9_ [] 0) else some (Out.mk true (V.one (X.d (D.bool false))) D.junk [] 0)) fun d7_ => some
  (Out.mk false V.junk d7_ [] 0)) fun d5_ => some (Out.mk false V.junk d5_ [] 0) else some (Out.mk true (V.one (X.d (D.bool false))) D.junk [] 0)) fun d3_ => some (Out.mk false V.junk d3_ []
  0)) fun d1_ => some (Out.mk false V.junk d1_ [] 0) := (Jn_step ..).trans (by kernel_rfl)
theorem call3 (r0 : List (List D)) (r1 : List (List D)) (x2 : Int) (x3 : Int) (s4 : ByteArray) (r5 : List (List D)) (r6 : List (List D)) (r7 : List (List D)) (x8 : Int) (x9 : Int) {o : Out}
  (h : Ev (fun _ k n => e3 (Ak k) n r0 r1 x2 x3 s4 r5 r6 r7 x8 x9) o) : Cal 3 [V.agg [X.d (D.list 5 r0), X.d (D.list 14 r1), X.d (D.int IntKind.i64 x2), X.d (D.int IntKind.i64 x3), X.d (D.str
  s4), X.d (D.list 1 r5), X.d (D.list 1 r6), X.d (D.list 8 r7), X.d (D.int IntKind.i64 x8), X.d (D.int IntKind.i64 x9)]] [] o := Ev.call (E := fun Γ n1 => e3 Γ n1 r0 r1 x2 x3 s4 r5 r6 r7 x8
  x9) (fun k => call_step (by kernel_rfl) rfl) h
end Go.Proofs.YtaphnbaiamnfpaaDoor.Ps
