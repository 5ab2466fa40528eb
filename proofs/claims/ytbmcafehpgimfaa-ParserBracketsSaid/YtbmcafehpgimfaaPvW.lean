/- What the pieces of the functions do, as functions of their data. Printed by pack4.py. -/
import Derived.Test.YtbmcafehpgimfaaPv0
namespace Go.Proofs.Ytbmcafehpgimfaa.Ps
set_option maxHeartbeats 0
set_option maxRecDepth 100000
set_option linter.unusedVariables false
open Go Go.RowKit
open Go.IntKind renaming i64 → iK, u8 → uK
noncomputable def e8 (Γ : Bool → SemL) (n1 : Nat) (s0 : ByteArray) (x1 : Int) : Option Out := runF Γ shp rc false (shp 8) sf8 n1 [V.one (X.d (D.str s0)), V.one (X.d (D.int uK x1))] []
noncomputable def q8_0 (Γ : Bool → SemL) (n1 : Nat) (s0 : ByteArray) (x1 x2 x3 : Int) (s4 : ByteArray) (r5 r6 r7 : List (List D)) (x8 x9 : Int) : Option Out := Jn (Γ false) shp n1 j8_0 (St.mk [(0, V.one (X.d (D.str s0))), (1, V.one (X.d (D.int uK x1))), (5, V.one (X.ptr 0 0))] [(0, Blk.mk [Lf.int
  iK, Lf.int iK, Lf.str, Lf.lst 1, Lf.lst 1, Lf.lst 8, Lf.int iK, Lf.int iK] [X.d (D.int iK x2), X.d (D.int iK x3), X.d (D.str s4), X.d
  (D.list 1 r5), X.d (D.list 1 r6), X.d (D.list 8 r7), X.d (D.int iK x8), X.d (D.int iK x9)])] [] 1 0 0 []) (finK (Γ true) rc false (shp 8) (SFunc.results sf8) 0)
noncomputable def l8_0 (n0 : Nat) (Γ : Bool → SemL) (n2 : Nat) (s0 : ByteArray) (x1 : Int) (s2 s3 : ByteArray) (x4 x5 x6 : Int) (s7 : ByteArray) (r8 r9 r10 : List (List D)) (x11 x12 : Int) : Option Out := loopK (Γ false) shp n0 [0, 1, 5, 7, 8, 9] lb8_0 (St.mk [(0, V.one (X.d (D.str s0))), (1, V.one (X.d
  (D.int uK x1))), (5, V.one (X.ptr 0 0)), (7, V.one (X.d (D.str s2))), (8, V.one (X.d (D.str s3))), (9, V.one (X.d (D.int uK x4)))] [(0, Blk.mk [Lf.int iK, Lf.int
  iK, Lf.str, Lf.lst 1, Lf.lst 1, Lf.lst 8, Lf.int iK, Lf.int iK] [X.d (D.int iK x5), X.d (D.int iK x6), X.d (D.str s7), X.d (D.list 1 r8), X.d
  (D.list 1 r9), X.d (D.list 8 r10), X.d (D.int iK x11), X.d (D.int iK x12)])] [] 1 0 0 []) (kBlk 0 (kSeq (some [0, 5, 7, 8]) (fun s K => Jn (Γ false) shp n2 j8_3 s K) (finK
  (Γ true) rc false (shp 8) (SFunc.results sf8) 0)))
noncomputable def q8_1 (Γ : Bool → SemL) (n1 : Nat) (n2 : Nat) (s0 : ByteArray) (x1 : Int) (s2 s3 : ByteArray) (x4 x5 x6 : Int) (s7 : ByteArray) (r8 r9 r10 : List (List D)) (x11 x12 : Int) : Option Out := Jn (Γ false) shp n1 j8_1 (St.mk [(0, V.one (X.d (D.str s0))), (1, V.one (X.d (D.int uK x1))),
  (5, V.one (X.ptr 0 0)), (7, V.one (X.d (D.str s2))), (8, V.one (X.d (D.str s3))), (9, V.one (X.d (D.int uK x4)))] [(0, Blk.mk [Lf.int iK, Lf.int iK, Lf.str, Lf.lst
  1, Lf.lst 1, Lf.lst 8, Lf.int iK, Lf.int iK] [X.d (D.int iK x5), X.d (D.int iK x6), X.d (D.str s7), X.d (D.list 1 r8), X.d (D.list 1 r9), X.d (D.list 8
  r10), X.d (D.int iK x11), X.d (D.int iK x12)])] [] 1 0 0 []) (kLoop (loopK (Γ false) shp n1) [0, 1, 5, 7, 8, 9] lb8_0 (kBlk 0 (kSeq (some [0, 5, 7, 8]) (fun s K => Jn (Γ
  false) shp n2 j8_3 s K) (finK (Γ true) rc false (shp 8) (SFunc.results sf8) 0))))
noncomputable def q8_3 (Γ : Bool → SemL) (n1 : Nat) (s0 s1 s2 : ByteArray) (x3 x4 : Int) (s5 : ByteArray) (r6 r7 r8 : List (List D)) (x9 x10 : Int) : Option Out := Jn (Γ false) shp n1 j8_3 (St.mk [(0, V.one (X.d (D.str s0))), (5, V.one (X.ptr 0 0)), (7, V.one (X.d (D.str s1))), (8, V.one (X.d
  (D.str s2)))] [(0, Blk.mk [Lf.int iK, Lf.int iK, Lf.str, Lf.lst 1, Lf.lst 1, Lf.lst 8, Lf.int iK, Lf.int iK] [X.d (D.int iK x3), X.d (D.int
  iK x4), X.d (D.str s5), X.d (D.list 1 r6), X.d (D.list 1 r7), X.d (D.list 8 r8), X.d (D.int iK x9), X.d (D.int iK x10)])] [] 1 0 0 []) (finK (Γ true) rc false
  (shp 8) (SFunc.results sf8) 0)
noncomputable def q8_2 (Γ : Bool → SemL) (n1 : Nat) (n2 : Nat) (s0 : ByteArray) (x1 : Int) (s2 s3 : ByteArray) (x4 x5 x6 : Int) (s7 : ByteArray) (r8 r9 r10 : List (List D)) (x11 x12 : Int) : Option Out := Jn (Γ false) shp n1 j8_2 (St.mk [(0, V.one (X.d (D.str s0))), (1, V.one (X.d (D.int uK x1))),
  (5, V.one (X.ptr 0 0)), (7, V.one (X.d (D.str s2))), (8, V.one (X.d (D.str s3))), (9, V.one (X.d (D.int uK x4)))] [(0, Blk.mk [Lf.int iK, Lf.int iK, Lf.str, Lf.lst
  1, Lf.lst 1, Lf.lst 8, Lf.int iK, Lf.int iK] [X.d (D.int iK x5), X.d (D.int iK x6), X.d (D.str s7), X.d (D.list 1 r8), X.d (D.list 1 r9), X.d (D.list 8
  r10), X.d (D.int iK x11), X.d (D.int iK x12)])] [] 1 0 0 []) (kLoop (loopK (Γ false) shp n1) [0, 1, 5, 7, 8, 9] lb8_0 (kBlk 0 (kSeq (some [0, 5, 7, 8]) (fun s K => Jn (Γ
  false) shp n2 j8_3 s K) (finK (Γ true) rc false (shp 8) (SFunc.results sf8) 0))))
theorem e8_eq (Γ : Bool → SemL) (n1 : Nat) (s0 : ByteArray) (x1 : Int) : e8 Γ n1 s0 x1 = r_t2a8IISL1L1L8IIa4ISII (Γ false 11 [V.one (X.d (D.str s0))] []) (fun i0_ i1_ u2_ w3_ w4_ w5_ i6_ i7_
  i8_ u9_ i10_ i11_ => bif decide (Int.ofNat (ByteArray.size s0) > 4000) then r_oB (Γ false 10 [] []) (fun c13_ => some (Out.mk true (V.one (X.d (D.bool c13_))) D.junk [] 0)) fun d14_ => some
  (Out.mk false V.junk d14_ [] 0) else bif i8_ != 0 then r_oB (Γ false 10 [] []) (fun c15_ => some (Out.mk true (V.one (X.d (D.bool c15_))) D.junk [] 0)) fun d16_ => some (Out.mk false V.junk
  d16_ [] 0) else q8_0 Γ n1 s0 x1 i0_ i1_ u2_ w3_ w4_ w5_ i6_ i7_) fun d12_ => some (Out.mk false V.junk d12_ [] 0) := (run_step ..).trans (by kernel_rfl)
theorem q8_0_eq (Γ : Bool → SemL) (n1 : Nat) (s0 : ByteArray) (x1 x2 x3 : Int) (s4 : ByteArray) (r5 r6 r7 : List (List D)) (x8 x9 : Int) : q8_0 Γ n1 s0 x1 x2 x3 s4 r5 r6 r7 x8 x9 = bif Nat.ble (ByteArray.size s0 + 1) 9223372036854775807 then bif Nat.ble (ByteArray.size s0 + 1) 9223372036854775807 then l8_0 n1 Γ n1 s0 x1
  (s0 ++ ByteArray.mk #[10]) (s0 ++ ByteArray.mk #[10]) 0 x2 x3 s4 r5 r6 r7 x8 x9 else none else none := (Jn_step ..).trans (by kernel_rfl)
theorem l8_0_eq (n0 : Nat) (Γ : Bool → SemL) (n2 : Nat) (s0 : ByteArray) (x1 : Int) (s2 s3 : ByteArray) (x4 x5 x6 : Int) (s7 : ByteArray) (r8 r9 r10 : List (List D)) (x11 x12 : Int) : l8_0 (n0 + 1) Γ n2 s0 x1 s2 s3 x4 x5 x6 s7 r8 r9 r10 x11 x12 = bif decide (x4 < Int.tmod x1 30) then q8_1 Γ n0 n2 s0 x1
  s2 s3 x4 x5 x6 s7 r8 r9 r10 x11 x12 else q8_3 Γ n2 s0 s2 s3 x5 x6 s7 r8 r9 r10 x11 x12 := (loop_step ..).trans (by kernel_rfl)
theorem q8_1_eq (Γ : Bool → SemL) (n1 : Nat) (n2 : Nat) (s0 : ByteArray) (x1 : Int) (s2 s3 : ByteArray) (x4 x5 x6 : Int) (s7 : ByteArray) (r8 r9 r10 : List (List D)) (x11 x12 : Int) : q8_1 Γ n1 n2 s0 x1 s2 s3 x4 x5 x6 s7 r8 r9 r10 x11 x12 = bif Nat.ble (1 + ByteArray.size s2) 9223372036854775807 then
  bif Nat.ble (ByteArray.size s3 + 1) 9223372036854775807 then q8_2 Γ n1 n2 s0 x1 (ByteArray.mk #[40] ++ s2) (s3 ++ ByteArray.mk #[41]) x4 x5 x6 s7 r8 r9 r10 x11 x12 else none else none :=
  (Jn_step ..).trans (by kernel_rfl)
theorem q8_3_eq (Γ : Bool → SemL) (n1 : Nat) (s0 s1 s2 : ByteArray) (x3 x4 : Int) (s5 : ByteArray) (r6 r7 r8 : List (List D)) (x9 x10 : Int) : q8_3 Γ n1 s0 s1 s2 x3 x4 s5 r6 r7 r8 x9 x10 = bif decide (0 ≤ Int.ofNat (ByteArray.size s2)) && decide (Int.ofNat (ByteArray.size s2) ≤ Int.ofNat
  (ByteArray.size s2)) && decide (0 ≤ IntKind.wrap iK (Int.ofNat (ByteArray.size s0) + 1)) && decide (IntKind.wrap iK (Int.ofNat (ByteArray.size s0) + 1) ≤ Int.ofNat
  (ByteArray.size s2)) then bif Nat.ble (ByteArray.size s1 + ByteArray.size (ByteArray.extract s2 (Int.toNat (IntKind.wrap iK (Int.ofNat (ByteArray.size s0) + 1))) (Int.toNat
  (Int.ofNat (ByteArray.size s2))))) 9223372036854775807 then r_t2a8IISL1L1L8IIa4ISII (Γ false 11 [V.one (X.d (D.str (s1 ++ ByteArray.extract s2 (Int.toNat (IntKind.wrap iK
  (Int.ofNat (ByteArray.size s0) + 1))) (Int.toNat (Int.ofNat (ByteArray.size s2))))))] []) (fun i0_ i1_ u2_ w3_ w4_ w5_ i6_ i7_ i8_ u9_ i10_ i11_ => bif Nat.ble (1 + ByteArray.size s0)
  9223372036854775807 then bif Nat.ble (ByteArray.size (ByteArray.mk #[40] ++ s0) + 3) 9223372036854775807 then bif Nat.ble (ByteArray.size (ByteArray.mk #[40] ++ s0 ++ ByteArray.mk #[10, 44,
  32]) + ByteArray.size s0) 9223372036854775807 then bif Nat.ble (ByteArray.size (ByteArray.mk #[40] ++ s0 ++ ByteArray.mk #[10, 44, 32] ++ s0) + 2) 9223372036854775807 then
  r_t2a8IISL1L1L8IIa4ISII (Γ false 11 [V.one (X.d (D.str (ByteArray.mk #[40] ++ s0 ++ ByteArray.mk #[10, 44, 32] ++ s0 ++ ByteArray.mk #[10, 41])))] []) (fun i13_ i14_ u15_ w16_ w17_ w18_
  i19_ i20_ i21_ u22_ i23_ i24_ => bif i8_ == 0 then r_oB (Γ false 15 [V.agg [X.d (D.int iK i0_), X.d (D.int iK i1_), X.d (D.str u2_), X.d (D.list 1 w3_), X.d (D.list 1
  w4_), X.d (D.list 8 w5_), X.d (D.int iK i6_), X.d (D.int iK i7_)], V.agg [X.d (D.int iK x3), X.d (D.int iK x4), X.d (D.str s5), X.d (D.list 1 r6), X.d
  (D.list 1 r7), X.d (D.list 8 r8), X.d (D.int iK x9), X.d (D.int iK x10)]] []) (fun c26_ => bif c26_ then bif i21_ == 2 then r_oB (Γ false 10 [] []) (fun c28_ => some
  (Out.mk true (V.one (X.d (D.bool c28_))) D.junk [] 0)) fun d29_ => some (Out.mk false V.junk d29_ [] 0) else bif i21_ == 0 then bif i13_ == 5 then bif Int.ofNat (List.length w18_) == 2 then
  bif true && decide (0 < Int.ofNat (List.length w18_)) then r_oB (Γ false 15 [V.agg [X.d (List.getD (List.getD w18_ 0 []) 0 D.junk), X.d (List.getD (List.getD w18_ 0 []) 1 D.junk), X.d
  (List.getD (List.getD w18_ 0 []) 2 D.junk), X.d (List.getD (List.getD w18_ 0 []) 3 D.junk), X.d (List.getD (List.getD w18_ 0 []) 4 D.junk), X.d (List.getD (List.getD w18_ 0 []) 5 D.junk),
  X.d (List.getD (List.getD w18_ 0 []) 6 D.junk), X.d (List.getD (List.getD w18_ 0 []) 7 D.junk)], V.agg [X.d (D.int iK x3), X.d (D.int iK x4), X.d (D.str s5), X.d (D.list 1
  r6), X.d (D.list 1 r7), X.d (D.list 8 r8), X.d (D.int iK x9), X.d (D.int iK x10)]] []) (fun c30_ => bif c30_ then bif true && decide (1 < Int.ofNat (List.length w18_))
  then r_oB (Γ false 15 [V.agg [X.d (List.getD (List.getD w18_ 1 []) 0 D.junk), X.d (List.getD (List.getD w18_ 1 []) 1 D.junk), X.d (List.getD (List.getD w18_ 1 []) 2 D.junk), X.d (List.getD
  (List.getD w18_ 1 []) 3 D.junk), X.d (List.getD (List.getD w18_ 1 []) 4 D.junk), X.d (List.getD (List.getD w18_ 1 []) 5 D.junk), X.d (List.getD (List.getD w18_ 1 []) 6 D.junk), X.d
  (List.getD (List.getD w18_ 1 []) 7 D.junk)], V.agg [X.d (D.int iK x3), X.d (D.int iK x4), X.d (D.str s5), X.d (D.list 1 r6), X.d (D.list 1 r7), X.d (D.list 8 r8), X.d
  (D.int iK x9), X.d (D.int iK x10)]] []) (fun c32_ => bif c32_ then r_oB (Γ false 10 [] []) (fun c34_ => some (Out.mk true (V.one (X.d (D.bool c34_))) D.junk [] 0)) fun
  d35_ => some (Out.mk false V.junk d35_ [] 0) else some (Out.mk true (V.one (X.d (D.bool false))) D.junk [] 0)) fun d33_ => some (Out.mk false V.junk d33_ [] 0) else none else some (Out.mk
  true (V.one (X.d (D.bool false))) D.junk [] 0)) fun d31_ => some (Out.mk false V.junk d31_ [] 0) else none else some (Out.mk true (V.one (X.d (D.bool false))) D.junk [] 0) else some (Out.mk
  true (V.one (X.d (D.bool false))) D.junk [] 0) else some (Out.mk true (V.one (X.d (D.bool false))) D.junk [] 0) else some (Out.mk true (V.one (X.d (D.bool false))) D.junk [] 0)) fun d27_ =>
  some (Out.mk false V.junk d27_ [] 0) else some (Out.mk true (V.one (X.d (D.bool false))) D.junk [] 0)) fun d25_ => some (Out.mk false V.junk d25_ [] 0) else none else none else none else
  none) fun d12_ => some (Out.mk false V.junk d12_ [] 0) else none else none := (Jn_step ..).trans (by kernel_rfl)
theorem q8_2_eq (Γ : Bool → SemL) (n1 : Nat) (n2 : Nat) (s0 : ByteArray) (x1 : Int) (s2 s3 : ByteArray) (x4 x5 x6 : Int) (s7 : ByteArray) (r8 r9 r10 : List (List D)) (x11 x12 : Int) : q8_2 Γ n1 n2 s0 x1 s2 s3 x4 x5 x6 s7 r8 r9 r10 x11 x12 = l8_0 n1 Γ n2 s0 x1 s2 s3 (IntKind.wrap uK (x4 + 1)) x5
  x6 s7 r8 r9 r10 x11 x12 := (Jn_step ..).trans (by kernel_rfl)
theorem call8 (s0 : ByteArray) (x1 : Int) {o : Out} (h : Ev (fun _ k n => e8 (Ak k) n s0 x1) o) : Cal 8 [V.one (X.d (D.str s0)), V.one (X.d (D.int uK x1))] [] o := Ev.call (E := fun Γ
  n1 => e8 Γ n1 s0 x1) (fun k => call_step (by kernel_rfl) rfl) h
end Go.Proofs.Ytbmcafehpgimfaa.Ps
