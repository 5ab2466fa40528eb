/- What the pieces of the functions do, as functions of their data. Printed by pack4.py. -/
import Derived.Test.YtaphnbaiamnfpaaDoorPv0
namespace Go.Proofs.YtaphnbaiamnfpaaDoor.Ps
set_option maxHeartbeats 0
set_option maxRecDepth 100000
set_option linter.unusedVariables false
open Go Go.RowKit
noncomputable def e30 (Γ : Bool → SemL) (n1 : Nat) (s0 : ByteArray) (b1 : Bool) : Option Out := runF Γ shp rc false (shp 30) sf30 n1 [V.one (X.d (D.str s0)), V.one (X.d (D.bool b1))] []
noncomputable def e51 (Γ : Bool → SemL) (n1 : Nat) (x0 : Int) : Option Out := runF Γ shp rc false (shp 51) sf51 n1 [V.one (X.d (D.int IntKind.u8 x0))] []
noncomputable def e52 (Γ : Bool → SemL) (n1 : Nat) (s0 : ByteArray) : Option Out := runF Γ shp rc false (shp 52) sf52 n1 [V.one (X.d (D.str s0))] []
noncomputable def q30_0 (Γ : Bool → SemL) (n1 : Nat) (s0 : ByteArray) : Option Out := Jn (Γ false) shp n1 j30_0 (St.mk [(0, V.one (X.d (D.str s0)))] [] [] 0 0 0 []) (finK (Γ true) rc false
  (shp 30) (SFunc.results sf30) 0)
noncomputable def e88 (Γ : Bool → SemL) (n1 : Nat) : Option Out := runF Γ shp rc false (shp 88) sf88 n1 [] []
noncomputable def l52_0 (n0 : Nat) (Γ : Bool → SemL) (n2 : Nat) (s0 : ByteArray) (r1 : List (List D)) (x2 : Int) : Option Out := loopK (Γ false) shp n0 [0, 3, 4] lb52_0 (St.mk [(0, V.one (X.d
  (D.str s0))), (3, V.one (X.d (D.list 1 r1))), (4, V.one (X.d (D.int IntKind.i64 x2)))] [] [] 0 0 0 []) (kBlk 0 (kSeq (some []) (fun s K => Jn (Γ false) shp n2 j52_2 s K) (finK (Γ true) rc
  false (shp 52) (SFunc.results sf52) 0)))
noncomputable def l30_0 (n0 : Nat) (Γ : Bool → SemL) (n2 : Nat) (s0 : ByteArray) (x1 : Int) : Option Out := loopK (Γ false) shp n0 [0, 5] lb30_0 (St.mk [(0, V.one (X.d (D.str s0))), (5, V.one
  (X.d (D.int IntKind.i64 x1)))] [] [] 0 0 0 []) (kBlk 0 (kSeq (some []) (fun s K => Jn (Γ false) shp n2 j30_3 s K) (finK (Γ true) rc false (shp 30) (SFunc.results sf30) 0)))
noncomputable def q52_0 (Γ : Bool → SemL) (n1 : Nat) (n2 : Nat) (s0 : ByteArray) (r1 : List (List D)) (x2 : Int) : Option Out := Jn (Γ false) shp n1 j52_0 (St.mk [(0, V.one (X.d (D.str s0))),
  (3, V.one (X.d (D.list 1 r1))), (4, V.one (X.d (D.int IntKind.i64 x2)))] [] [] 0 0 0 []) (kLoop (loopK (Γ false) shp n1) [0, 3, 4] lb52_0 (kBlk 0 (kSeq (some []) (fun s K => Jn (Γ false)
  shp n2 j52_2 s K) (finK (Γ true) rc false (shp 52) (SFunc.results sf52) 0))))
noncomputable def q52_2 (Γ : Bool → SemL) (n1 : Nat) : Option Out := Jn (Γ false) shp n1 j52_2 (St.mk [] [] [] 0 0 0 []) (finK (Γ true) rc false (shp 52) (SFunc.results sf52) 0)
noncomputable def q30_1 (Γ : Bool → SemL) (n1 : Nat) (n2 : Nat) (s0 : ByteArray) (x1 : Int) : Option Out := Jn (Γ false) shp n1 j30_1 (St.mk [(0, V.one (X.d (D.str s0))), (5, V.one (X.d
  (D.int IntKind.i64 x1)))] [] [] 0 0 0 []) (kLoop (loopK (Γ false) shp n1) [0, 5] lb30_0 (kBlk 0 (kSeq (some []) (fun s K => Jn (Γ false) shp n2 j30_3 s K) (finK (Γ true) rc false (shp 30)
  (SFunc.results sf30) 0))))
noncomputable def q30_3 (Γ : Bool → SemL) (n1 : Nat) : Option Out := Jn (Γ false) shp n1 j30_3 (St.mk [] [] [] 0 0 0 []) (finK (Γ true) rc false (shp 30) (SFunc.results sf30) 0)
noncomputable def q52_1 (Γ : Bool → SemL) (n1 : Nat) (n2 : Nat) (s0 : ByteArray) (r1 : List (List D)) (x2 : Int) : Option Out := Jn (Γ false) shp n1 j52_1 (St.mk [(0, V.one (X.d (D.str s0))),
  (3, V.one (X.d (D.list 1 r1))), (4, V.one (X.d (D.int IntKind.i64 x2)))] [] [] 0 0 0 []) (kLoop (loopK (Γ false) shp n1) [0, 3, 4] lb52_0 (kBlk 0 (kSeq (some []) (fun s K => Jn (Γ false)
  shp n2 j52_2 s K) (finK (Γ true) rc false (shp 52) (SFunc.results sf52) 0))))
noncomputable def e53 (Γ : Bool → SemL) (n1 : Nat) (x0 : Int) : Option Out := runF Γ shp rc false (shp 53) sf53 n1 [V.one (X.d (D.int IntKind.u8 x0))] []
noncomputable def q30_2 (Γ : Bool → SemL) (n1 : Nat) (n2 : Nat) (s0 : ByteArray) (x1 : Int) : Option Out := Jn (Γ false) shp n1 j30_2 (St.mk [(0, V.one (X.d (D.str s0))), (5, V.one (X.d
  (D.int IntKind.i64 x1)))] [] [] 0 0 0 []) (kLoop (loopK (Γ false) shp n1) [0, 5] lb30_0 (kBlk 0 (kSeq (some []) (fun s K => Jn (Γ false) shp n2 j30_3 s K) (finK (Γ true) rc false (shp 30)
  (SFunc.results sf30) 0))))
theorem e30_eq (Γ : Bool → SemL) (n1 : Nat) (s0 : ByteArray) (b1 : Bool) : e30 Γ n1 s0 b1 = bif beqL (Array.toList (ByteArray.data s0)) (Array.toList (ByteArray.data (ByteArray.mk #[]))) then
  some (Out.mk true (V.one (X.d (D.bool false))) D.junk [] 0) else bif true && decide (0 < Int.ofNat (ByteArray.size s0)) then r_oB (Γ false 51 [V.one (X.d (D.int IntKind.u8 (Int.ofNat
  (UInt8.toNat (ByteArray.get! s0 0)))))] []) (fun c0_ => bif !c0_ then some (Out.mk true (V.one (X.d (D.bool false))) D.junk [] 0) else r_oB (Γ false 52 [V.one (X.d (D.str s0))] []) (fun c2_
  => bif c2_ then some (Out.mk true (V.one (X.d (D.bool false))) D.junk [] 0) else bif !b1 then bif decide (Int.ofNat (ByteArray.size s0) > 24) then some (Out.mk true (V.one (X.d (D.bool
  false))) D.junk [] 0) else q30_0 Γ n1 s0 else q30_0 Γ n1 s0) fun d3_ => some (Out.mk false V.junk d3_ [] 0)) fun d1_ => some (Out.mk false V.junk d1_ [] 0) else none := (run_step ..).trans
  (by kernel_rfl)
theorem e51_eq (Γ : Bool → SemL) (n1 : Nat) (x0 : Int) : e51 Γ n1 x0 = bif decide (x0 ≥ 97) then some (Out.mk true (V.one (X.d (D.bool (decide (x0 ≤ 122))))) D.junk [] 0) else some (Out.mk
  true (V.one (X.d (D.bool false))) D.junk [] 0) := (run_step ..).trans (by kernel_rfl)
theorem e52_eq (Γ : Bool → SemL) (n1 : Nat) (s0 : ByteArray) : e52 Γ n1 s0 = r_oL1 (Γ false 88 [] []) (fun w0_ => l52_0 n1 Γ n1 s0 w0_ 0) fun d1_ => some (Out.mk false V.junk d1_ [] 0) :=
  (run_step ..).trans (by kernel_rfl)
theorem q30_0_eq (Γ : Bool → SemL) (n1 : Nat) (s0 : ByteArray) : q30_0 Γ n1 s0 = l30_0 n1 Γ n1 s0 0 := (Jn_step ..).trans (by kernel_rfl)
theorem e88_eq (Γ : Bool → SemL) (n1 : Nat) : e88 Γ n1 = some (Out.mk true (V.one (X.d (D.list 1 [[D.str (ByteArray.mk #[97, 110, 100])], [D.str (ByteArray.mk #[98, 111, 111, 108])], [D.str
  (ByteArray.mk #[99, 97, 115, 101])], [D.str (ByteArray.mk #[101, 108, 115, 101])], [D.str (ByteArray.mk #[102, 97, 108, 115, 101])], [D.str (ByteArray.mk #[102, 108, 105, 112])], [D.str
  (ByteArray.mk #[102, 117, 110])], [D.str (ByteArray.mk #[105, 102])], [D.str (ByteArray.mk #[105, 110])], [D.str (ByteArray.mk #[105, 110, 112, 117, 116])], [D.str (ByteArray.mk #[105, 110,
  116])], [D.str (ByteArray.mk #[108, 101, 116])], [D.str (ByteArray.mk #[110, 111, 116])], [D.str (ByteArray.mk #[111, 98, 115, 101, 114, 118, 101])], [D.str (ByteArray.mk #[111, 102])],
  [D.str (ByteArray.mk #[111, 114])], [D.str (ByteArray.mk #[112, 105, 99, 107])], [D.str (ByteArray.mk #[114, 97, 110, 103, 101])], [D.str (ByteArray.mk #[115, 99, 111, 114, 101])], [D.str
  (ByteArray.mk #[116, 104, 101, 110])], [D.str (ByteArray.mk #[116, 114, 117, 101])]]))) D.junk [] 0) := (run_step ..).trans (by kernel_rfl)
theorem l52_0_eq (n0 : Nat) (Γ : Bool → SemL) (n2 : Nat) (s0 : ByteArray) (r1 : List (List D)) (x2 : Int) : l52_0 (n0 + 1) Γ n2 s0 r1 x2 = bif decide (x2 < Int.ofNat (List.length r1)) then
  q52_0 Γ n0 n2 s0 r1 x2 else q52_2 Γ n2 := (loop_step ..).trans (by kernel_rfl)
theorem l30_0_eq (n0 : Nat) (Γ : Bool → SemL) (n2 : Nat) (s0 : ByteArray) (x1 : Int) : l30_0 (n0 + 1) Γ n2 s0 x1 = bif decide (x1 < Int.ofNat (ByteArray.size s0)) then q30_1 Γ n0 n2 s0 x1
  else q30_3 Γ n2 := (loop_step ..).trans (by kernel_rfl)
theorem q52_0_eq (Γ : Bool → SemL) (n1 : Nat) (n2 : Nat) (s0 : ByteArray) (r1 : List (List D)) (x2 : Int) : q52_0 Γ n1 n2 s0 r1 x2 = bif decide (0 ≤ x2) && decide (x2 < Int.ofNat (List.length
  r1)) then bif D.isStr (List.getD (List.getD r1 (Int.toNat x2) []) 0 D.junk) then bif beqL (Array.toList (ByteArray.data (D.bytes (List.getD (List.getD r1 (Int.toNat x2) []) 0 D.junk))))
  (Array.toList (ByteArray.data s0)) then some (Out.mk true (V.one (X.d (D.bool true))) D.junk [] 0) else q52_1 Γ n1 n2 s0 r1 x2 else none else none := (Jn_step ..).trans (by kernel_rfl)
theorem q52_2_eq (Γ : Bool → SemL) (n1 : Nat) : q52_2 Γ n1 = some (Out.mk true (V.one (X.d (D.bool false))) D.junk [] 0) := (Jn_step ..).trans (by kernel_rfl)
theorem q30_1_eq (Γ : Bool → SemL) (n1 : Nat) (n2 : Nat) (s0 : ByteArray) (x1 : Int) : q30_1 Γ n1 n2 s0 x1 = bif decide (0 ≤ x1) && decide (x1 < Int.ofNat (ByteArray.size s0)) then r_oB (Γ
  false 51 [V.one (X.d (D.int IntKind.u8 (Int.ofNat (UInt8.toNat (ByteArray.get! s0 (Int.toNat x1))))))] []) (fun c0_ => bif !c0_ then bif decide (0 ≤ x1) && decide (x1 < Int.ofNat
  (ByteArray.size s0)) then r_oB (Γ false 53 [V.one (X.d (D.int IntKind.u8 (Int.ofNat (UInt8.toNat (ByteArray.get! s0 (Int.toNat x1))))))] []) (fun c2_ => bif !c2_ then bif decide (0 ≤ x1) &&
  decide (x1 < Int.ofNat (ByteArray.size s0)) then bif Int.ofNat (UInt8.toNat (ByteArray.get! s0 (Int.toNat x1))) != 95 then some (Out.mk true (V.one (X.d (D.bool false))) D.junk [] 0) else
  q30_2 Γ n1 n2 s0 x1 else none else q30_2 Γ n1 n2 s0 x1) fun d3_ => some (Out.mk false V.junk d3_ [] 0) else none else q30_2 Γ n1 n2 s0 x1) fun d1_ => some (Out.mk false V.junk d1_ [] 0)
  else none := (Jn_step ..).trans (by kernel_rfl)
theorem q30_3_eq (Γ : Bool → SemL) (n1 : Nat) : q30_3 Γ n1 = some (Out.mk true (V.one (X.d (D.bool true))) D.junk [] 0) := (Jn_step ..).trans (by kernel_rfl)
theorem q52_1_eq (Γ : Bool → SemL) (n1 : Nat) (n2 : Nat) (s0 : ByteArray) (r1 : List (List D)) (x2 : Int) : q52_1 Γ n1 n2 s0 r1 x2 = l52_0 n1 Γ n2 s0 r1 (IntKind.wrap IntKind.i64 (x2 + 1)) :=
  (Jn_step ..).trans (by kernel_rfl)
theorem e53_eq (Γ : Bool → SemL) (n1 : Nat) (x0 : Int) : e53 Γ n1 x0 = bif decide (x0 ≥ 48) then some (Out.mk true (V.one (X.d (D.bool (decide (x0 ≤ 57))))) D.junk [] 0) else some (Out.mk
  true (V.one (X.d (D.bool false))) D.junk [] 0) := (run_step ..).trans (by kernel_rfl)
theorem q30_2_eq (Γ : Bool → SemL) (n1 : Nat) (n2 : Nat) (s0 : ByteArray) (x1 : Int) : q30_2 Γ n1 n2 s0 x1 = l30_0 n1 Γ n2 s0 (IntKind.wrap IntKind.i64 (x1 + 1)) := (Jn_step ..).trans (by
  kernel_rfl)
theorem call30 (s0 : ByteArray) (b1 : Bool) {o : Out} (h : Ev (fun _ k n => e30 (Ak k) n s0 b1) o) : Cal 30 [V.one (X.d (D.str s0)), V.one (X.d (D.bool b1))] [] o := Ev.call (E := fun Γ n1 =>
  e30 Γ n1 s0 b1) (fun k => call_step (by kernel_rfl) rfl) h
theorem call51 (x0 : Int) {o : Out} (h : Ev (fun _ k n => e51 (Ak k) n x0) o) : Cal 51 [V.one (X.d (D.int IntKind.u8 x0))] [] o := Ev.call (E := fun Γ n1 => e51 Γ n1 x0) (fun k => call_step
  (by kernel_rfl) rfl) h
theorem call52 (s0 : ByteArray) {o : Out} (h : Ev (fun _ k n => e52 (Ak k) n s0) o) : Cal 52 [V.one (X.d (D.str s0))] [] o := Ev.call (E := fun Γ n1 => e52 Γ n1 s0) (fun k => call_step (by
  kernel_rfl) rfl) h
theorem call88 {o : Out} (h : Ev (fun _ k n => e88 (Ak k) n ) o) : Cal 88 [] [] o := Ev.call (E := fun Γ n1 => e88 Γ n1 ) (fun k => call_step (by kernel_rfl) rfl) h
theorem call53 (x0 : Int) {o : Out} (h : Ev (fun _ k n => e53 (Ak k) n x0) o) : Cal 53 [V.one (X.d (D.int IntKind.u8 x0))] [] o := Ev.call (E := fun Γ n1 => e53 Γ n1 x0) (fun k => call_step
  (by kernel_rfl) rfl) h
end Go.Proofs.YtaphnbaiamnfpaaDoor.Ps
