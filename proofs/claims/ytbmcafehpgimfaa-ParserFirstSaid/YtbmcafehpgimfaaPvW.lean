/- What the pieces of the functions do, as functions of their data. Printed by pack4.py. -/
import Derived.Test.YtbmcafehpgimfaaPv0
namespace Go.Proofs.Ytbmcafehpgimfaa.Ps
set_option maxHeartbeats 0
set_option maxRecDepth 100000
set_option linter.unusedVariables false
open Go Go.RowKit
open Go.IntKind renaming i64 → iK, u8 → uK
noncomputable def e5 (Γ : Bool → SemL) (n1 : Nat) (s0 s1 : ByteArray) : Option Out := runF Γ shp rc false (shp 5) sf5 n1 [V.one (X.d (D.str s0)), V.one (X.d (D.str s1))] []
noncomputable def e6 (Γ : Bool → SemL) (n1 : Nat) (s0 : ByteArray) : Option Out := runF Γ shp rc false (shp 6) sf6 n1 [V.one (X.d (D.str s0))] []
noncomputable def q5_0 (Γ : Bool → SemL) (n1 : Nat) (s0 s1 : ByteArray) (x2 : Int) (s3 : ByteArray) (x4 x5 : Int) : Option Out := Jn (Γ false) shp n1 j5_0 (St.mk [(0,
  V.one (X.d (D.str s0))), (1, V.one (X.d (D.str s1))), (6, V.one (X.ptr 0 0))] [(0, Blk.mk [Lf.int iK, Lf.str, Lf.int iK, Lf.int iK] [X.d (D.int iK x2),
  X.d (D.str s3), X.d (D.int iK x4), X.d (D.int iK x5)])] [] 1 0 0 []) (finK (Γ true) rc false (shp 5) (SFunc.results sf5) 0)
noncomputable def q6_0 (Γ : Bool → SemL) (n1 : Nat) (s0 : ByteArray) (x1 : Int) (s2 : ByteArray) (x3 x4 : Int) : Option Out := Jn (Γ false) shp n1 j6_0 (St.mk [(0, V.one (X.d (D.str
  s0))), (4, V.one (X.ptr 0 0))] [(0, Blk.mk [Lf.int iK, Lf.str, Lf.int iK, Lf.int iK] [X.d (D.int iK x1), X.d (D.str s2), X.d (D.int iK x3), X.d
  (D.int iK x4)])] [] 1 0 0 []) (finK (Γ true) rc false (shp 6) (SFunc.results sf6) 0)
noncomputable def e20 (Γ : Bool → SemL) (n1 : Nat) (s0 : ByteArray) (x1 x2 x3 : Int) : Option Out := runF Γ shp rc false (shp 20) sf20 n1 [V.one (X.d (D.str s0)), V.one (X.d
  (D.int iK x1)), V.one (X.d (D.int iK x2)), V.one (X.d (D.int iK x3))] []
noncomputable def q5_1 (Γ : Bool → SemL) (n1 : Nat) (s0 : ByteArray) (x1 : Int) (s2 : ByteArray) (x3 x4 : Int) : Option Out := Jn (Γ false) shp n1 j5_1 (St.mk [(6, V.one (X.ptr 0 0)),
  (7, V.one (X.d (D.str s0)))] [(0, Blk.mk [Lf.int iK, Lf.str, Lf.int iK, Lf.int iK] [X.d (D.int iK x1), X.d (D.str s2), X.d (D.int iK x3), X.d
  (D.int iK x4)])] [] 1 0 0 []) (finK (Γ true) rc false (shp 5) (SFunc.results sf5) 0)
noncomputable def l20_0 (n0 : Nat) (Γ : Bool → SemL) (n2 : Nat) (s0 : ByteArray) (x1 x2 x3 x4 : Int) : Option Out := loopK (Γ false) shp n0 [0, 1, 2, 3, 9] lb20_0
  (St.mk [(0, V.one (X.d (D.str s0))), (1, V.one (X.d (D.int iK x1))), (2, V.one (X.d (D.int iK x2))), (3, V.one (X.d (D.int iK x3))), (9, V.one (X.d (D.int
  iK x4)))] [] [] 0 0 0 []) (kBlk 0 (kSeq (some [0, 2, 3, 9]) (fun s K => Jn (Γ false) shp n2 j20_2 s K) (finK (Γ true) rc false (shp 20) (SFunc.results sf20) 0)))
noncomputable def q20_0 (Γ : Bool → SemL) (n1 : Nat) (n2 : Nat) (s0 : ByteArray) (x1 x2 x3 x4 : Int) : Option Out := Jn (Γ false) shp n1 j20_0 (St.mk [(0, V.one (X.d
  (D.str s0))), (1, V.one (X.d (D.int iK x1))), (2, V.one (X.d (D.int iK x2))), (3, V.one (X.d (D.int iK x3))), (9, V.one (X.d (D.int iK x4)))] [] [] 0 0 0
  []) (kLoop (loopK (Γ false) shp n1) [0, 1, 2, 3, 9] lb20_0 (kBlk 0 (kSeq (some [0, 2, 3, 9]) (fun s K => Jn (Γ false) shp n2 j20_2 s K) (finK (Γ true) rc false (shp 20) (SFunc.results sf20)
  0))))
noncomputable def q20_2 (Γ : Bool → SemL) (n1 : Nat) (s0 : ByteArray) (x1 x2 x3 : Int) : Option Out := Jn (Γ false) shp n1 j20_2 (St.mk [(0, V.one (X.d (D.str s0))), (2, V.one
  (X.d (D.int iK x1))), (3, V.one (X.d (D.int iK x2))), (9, V.one (X.d (D.int iK x3)))] [] [] 0 0 0 []) (finK (Γ true) rc false (shp 20) (SFunc.results sf20) 0)
noncomputable def q20_1 (Γ : Bool → SemL) (n1 : Nat) (n2 : Nat) (s0 : ByteArray) (x1 x2 x3 x4 : Int) : Option Out := Jn (Γ false) shp n1 j20_1 (St.mk [(0, V.one (X.d
  (D.str s0))), (1, V.one (X.d (D.int iK x1))), (2, V.one (X.d (D.int iK x2))), (3, V.one (X.d (D.int iK x3))), (9, V.one (X.d (D.int iK x4)))] [] [] 0 0 0
  []) (kBlk 1 (kLoop (loopK (Γ false) shp n1) [0, 1, 2, 3, 9] lb20_0 (kBlk 0 (kSeq (some [0, 2, 3, 9]) (fun s K => Jn (Γ false) shp n2 j20_2 s K) (finK (Γ true) rc false (shp 20)
  (SFunc.results sf20) 0)))))
theorem e5_eq (Γ : Bool → SemL) (n1 : Nat) (s0 s1 : ByteArray) : e5 Γ n1 s0 s1 = r_t2a10L5L14IISL1L1L8IIa4ISII (Γ false 19 [V.one (X.d (D.str s0))] []) (fun w0_ w1_ i2_ i3_ u4_
  w5_ w6_ w7_ i8_ i9_ i10_ u11_ i12_ i13_ => bif decide (Int.ofNat (ByteArray.size s0) > 9000) then r_oB (Γ false 10 [] []) (fun c15_ => some (Out.mk true (V.one (X.d (D.bool c15_))) D.junk
  [] 0)) fun d16_ => some (Out.mk false V.junk d16_ [] 0) else bif decide (Int.ofNat (ByteArray.size s1) > 9000) then r_oB (Γ false 10 [] []) (fun c17_ => some (Out.mk true (V.one (X.d
  (D.bool c17_))) D.junk [] 0)) fun d18_ => some (Out.mk false V.junk d18_ [] 0) else bif i10_ != 11 then r_oB (Γ false 10 [] []) (fun c19_ => some (Out.mk true (V.one (X.d (D.bool c19_)))
  D.junk [] 0)) fun d20_ => some (Out.mk false V.junk d20_ [] 0) else bif beqL (Array.toList (ByteArray.data u11_)) (Array.toList (ByteArray.data (ByteArray.mk #[]))) then r_oB (Γ false 10 []
  []) (fun c21_ => some (Out.mk true (V.one (X.d (D.bool c21_))) D.junk [] 0)) fun d22_ => some (Out.mk false V.junk d22_ [] 0) else q5_0 Γ n1 s0 s1 i10_ u11_ i12_ i13_) fun d14_ => some
  (Out.mk false V.junk d14_ [] 0) := (run_step ..).trans (by kernel_rfl)
theorem e6_eq (Γ : Bool → SemL) (n1 : Nat) (s0 : ByteArray) : e6 Γ n1 s0 = r_t2a10L5L14IISL1L1L8IIa4ISII (Γ false 19 [V.one (X.d (D.str s0))] []) (fun w0_ w1_ i2_ i3_ u4_ w5_ w6_ w7_ i8_ i9_
  i10_ u11_ i12_ i13_ => bif decide (Int.ofNat (ByteArray.size s0) > 9000) then r_oB (Γ false 10 [] []) (fun c15_ => some (Out.mk true (V.one (X.d (D.bool c15_))) D.junk [] 0)) fun d16_ =>
  some (Out.mk false V.junk d16_ [] 0) else bif i10_ != 11 then r_oB (Γ false 10 [] []) (fun c17_ => some (Out.mk true (V.one (X.d (D.bool c17_))) D.junk [] 0)) fun d18_ => some (Out.mk false
  V.junk d18_ [] 0) else q6_0 Γ n1 s0 i10_ u11_ i12_ i13_) fun d14_ => some (Out.mk false V.junk d14_ [] 0) := (run_step ..).trans (by kernel_rfl)
theorem q5_0_eq (Γ : Bool → SemL) (n1 : Nat) (s0 s1 : ByteArray) (x2 : Int) (s3 : ByteArray) (x4 x5 : Int) : q5_0 Γ n1 s0 s1 x2 s3 x4 x5 = r_oS (Γ false 20 [V.one (X.d
  (D.str s0)), V.one (X.d (D.int iK x4)), V.one (X.d (D.int iK x5)), V.one (X.d (D.int iK (Int.ofNat (ByteArray.size s3))))] []) (fun u0_ => bif Nat.ble
  (ByteArray.size u0_ + 1) 9223372036854775807 then bif Nat.ble (ByteArray.size (u0_ ++ ByteArray.mk #[32]) + ByteArray.size s1) 9223372036854775807 then r_t2oL5a4ISII (Γ false 21 [V.one (X.d
  (D.str (u0_ ++ ByteArray.mk #[32] ++ s1)))] []) (fun w2_ i3_ u4_ i5_ i6_ => bif i3_ != 0 then r_oB (Γ false 10 [] []) (fun c8_ => some (Out.mk true (V.one (X.d (D.bool c8_))) D.junk [] 0))
  fun d9_ => some (Out.mk false V.junk d9_ [] 0) else q5_1 Γ n1 (u0_ ++ ByteArray.mk #[32] ++ s1) x2 s3 x4 x5) fun d7_ => some (Out.mk false V.junk d7_ [] 0) else none else none) fun d1_ =>
  some (Out.mk false V.junk d1_ [] 0) := (Jn_step ..).trans (by kernel_rfl)
theorem q6_0_eq (Γ : Bool → SemL) (n1 : Nat) (s0 : ByteArray) (x1 : Int) (s2 : ByteArray) (x3 x4 : Int) : q6_0 Γ n1 s0 x1 s2 x3 x4 = r_oS (Γ false 20 [V.one (X.d (D.str s0)), V.one
  (X.d (D.int iK x3)), V.one (X.d (D.int iK x4)), V.one (X.d (D.int iK 0))] []) (fun u0_ => r_t2a10L5L14IISL1L1L8IIa4ISII (Γ false 19 [V.one (X.d (D.str u0_))] [])
  (fun w2_ w3_ i4_ i5_ u6_ w7_ w8_ w9_ i10_ i11_ i12_ u13_ i14_ i15_ => bif i12_ != 11 then r_oB (Γ false 10 [] []) (fun c17_ => some (Out.mk true (V.one (X.d (D.bool c17_))) D.junk [] 0))
  fun d18_ => some (Out.mk false V.junk d18_ [] 0) else bif beqL (Array.toList (ByteArray.data u13_)) (Array.toList (ByteArray.data (ByteArray.mk #[]))) then r_oB (Γ false 10 [] []) (fun c19_
  => some (Out.mk true (V.one (X.d (D.bool c19_))) D.junk [] 0)) fun d20_ => some (Out.mk false V.junk d20_ [] 0) else some (Out.mk true (V.one (X.d (D.bool false))) D.junk [] 0)) fun d16_ =>
  some (Out.mk false V.junk d16_ [] 0)) fun d1_ => some (Out.mk false V.junk d1_ [] 0) := (Jn_step ..).trans (by kernel_rfl)
theorem e20_eq (Γ : Bool → SemL) (n1 : Nat) (s0 : ByteArray) (x1 x2 x3 : Int) : e20 Γ n1 s0 x1 x2 x3 = l20_0 n1 Γ n1 s0 x1 x2 x3 0 := (run_step ..).trans (by kernel_rfl)
theorem q5_1_eq (Γ : Bool → SemL) (n1 : Nat) (s0 : ByteArray) (x1 : Int) (s2 : ByteArray) (x3 x4 : Int) : q5_1 Γ n1 s0 x1 s2 x3 x4 = r_t2a10L5L14IISL1L1L8IIa4ISII (Γ false 19 [V.one
  (X.d (D.str s0))] []) (fun w0_ w1_ i2_ i3_ u4_ w5_ w6_ w7_ i8_ i9_ i10_ u11_ i12_ i13_ => bif i10_ == x1 && (beqL (Array.toList (ByteArray.data u11_)) (Array.toList (ByteArray.data s2)) &&
  (i12_ == x3 && (i13_ == x4 && true))) then r_oB (Γ false 10 [] []) (fun c15_ => some (Out.mk true (V.one (X.d (D.bool c15_))) D.junk [] 0)) fun d16_ => some (Out.mk false V.junk d16_ [] 0)
  else some (Out.mk true (V.one (X.d (D.bool false))) D.junk [] 0)) fun d14_ => some (Out.mk false V.junk d14_ [] 0) := (Jn_step ..).trans (by kernel_rfl)
theorem l20_0_eq (n0 : Nat) (Γ : Bool → SemL) (n2 : Nat) (s0 : ByteArray) (x1 x2 x3 x4 : Int) : l20_0 (n0 + 1) Γ n2 s0 x1 x2 x3 x4 = bif decide (x4 < Int.ofNat
  (ByteArray.size s0)) then bif decide (x1 > 1) then q20_0 Γ n0 n2 s0 x1 x2 x3 x4 else q20_2 Γ n2 s0 x2 x3 x4 else q20_2 Γ n2 s0 x2 x3 x4 := (loop_step ..).trans (by kernel_rfl)
theorem q20_0_eq (Γ : Bool → SemL) (n1 : Nat) (n2 : Nat) (s0 : ByteArray) (x1 x2 x3 x4 : Int) : q20_0 Γ n1 n2 s0 x1 x2 x3 x4 = bif decide (0 ≤ x4) && decide (x4 <
  Int.ofNat (ByteArray.size s0)) then bif Int.ofNat (UInt8.toNat (ByteArray.get! s0 (Int.toNat x4))) == 10 then q20_1 Γ n1 n2 s0 (IntKind.wrap iK (x1 - 1)) x2 x3 x4 else q20_1 Γ n1
  n2 s0 x1 x2 x3 x4 else none := (Jn_step ..).trans (by kernel_rfl)
theorem q20_2_eq (Γ : Bool → SemL) (n1 : Nat) (s0 : ByteArray) (x1 x2 x3 : Int) : q20_2 Γ n1 s0 x1 x2 x3 = bif decide (0 ≤ if (if 0 < IntKind.wrap iK (IntKind.wrap
  iK (IntKind.wrap iK (x3 + x1) - 1) + x2) then IntKind.wrap iK (IntKind.wrap iK (IntKind.wrap iK (x3 + x1) - 1) + x2) else 0) < Int.ofNat
  (ByteArray.size s0) then if 0 < IntKind.wrap iK (IntKind.wrap iK (IntKind.wrap iK (x3 + x1) - 1) + x2) then IntKind.wrap iK (IntKind.wrap iK
  (IntKind.wrap iK (x3 + x1) - 1) + x2) else 0 else Int.ofNat (ByteArray.size s0)) && decide ((if (if 0 < IntKind.wrap iK (IntKind.wrap iK (IntKind.wrap iK
  (x3 + x1) - 1) + x2) then IntKind.wrap iK (IntKind.wrap iK (IntKind.wrap iK (x3 + x1) - 1) + x2) else 0) < Int.ofNat (ByteArray.size s0) then if 0 < IntKind.wrap
  iK (IntKind.wrap iK (IntKind.wrap iK (x3 + x1) - 1) + x2) then IntKind.wrap iK (IntKind.wrap iK (IntKind.wrap iK (x3 + x1) - 1) + x2)
  else 0 else Int.ofNat (ByteArray.size s0)) ≤ Int.ofNat (ByteArray.size s0)) && true && decide (0 ≤ if (if 0 < IntKind.wrap iK (IntKind.wrap iK (IntKind.wrap iK
  (x3 + x1) - 1) + x2) then IntKind.wrap iK (IntKind.wrap iK (IntKind.wrap iK (x3 + x1) - 1) + x2) else 0) < Int.ofNat (ByteArray.size s0) then if 0 < IntKind.wrap
  iK (IntKind.wrap iK (IntKind.wrap iK (x3 + x1) - 1) + x2) then IntKind.wrap iK (IntKind.wrap iK (IntKind.wrap iK (x3 + x1) - 1) + x2)
  else 0 else Int.ofNat (ByteArray.size s0)) then some (Out.mk true (V.one (X.d (D.str (ByteArray.extract s0 0 (Int.toNat (if (if 0 < IntKind.wrap iK (IntKind.wrap iK
  (IntKind.wrap iK (x3 + x1) - 1) + x2) then IntKind.wrap iK (IntKind.wrap iK (IntKind.wrap iK (x3 + x1) - 1) + x2) else 0) < Int.ofNat (ByteArray.size s0)
  then if 0 < IntKind.wrap iK (IntKind.wrap iK (IntKind.wrap iK (x3 + x1) - 1) + x2) then IntKind.wrap iK (IntKind.wrap iK (IntKind.wrap
  iK (x3 + x1) - 1) + x2) else 0 else Int.ofNat (ByteArray.size s0))))))) D.junk [] 0) else none := (Jn_step ..).trans (by kernel_rfl)
theorem q20_1_eq (Γ : Bool → SemL) (n1 : Nat) (n2 : Nat) (s0 : ByteArray) (x1 x2 x3 x4 : Int) : q20_1 Γ n1 n2 s0 x1 x2 x3 x4 = l20_0 n1 Γ n2 s0 x1 x2 x3 (IntKind.wrap
  iK (x4 + 1)) := (Jn_step ..).trans (by kernel_rfl)
theorem call5 (s0 s1 : ByteArray) {o : Out} (h : Ev (fun _ k n => e5 (Ak k) n s0 s1) o) : Cal 5 [V.one (X.d (D.str s0)), V.one (X.d (D.str s1))] [] o := Ev.call (E := fun Γ n1
  => e5 Γ n1 s0 s1) (fun k => call_step (by kernel_rfl) rfl) h
theorem call6 (s0 : ByteArray) {o : Out} (h : Ev (fun _ k n => e6 (Ak k) n s0) o) : Cal 6 [V.one (X.d (D.str s0))] [] o := Ev.call (E := fun Γ n1 => e6 Γ n1 s0) (fun k => call_step (by
  kernel_rfl) rfl) h
theorem call20 (s0 : ByteArray) (x1 x2 x3 : Int) {o : Out} (h : Ev (fun _ k n => e20 (Ak k) n s0 x1 x2 x3) o) : Cal 20 [V.one (X.d (D.str s0)), V.one (X.d (D.int iK
  x1)), V.one (X.d (D.int iK x2)), V.one (X.d (D.int iK x3))] [] o := Ev.call (E := fun Γ n1 => e20 Γ n1 s0 x1 x2 x3) (fun k => call_step (by kernel_rfl) rfl) h
end Go.Proofs.Ytbmcafehpgimfaa.Ps
