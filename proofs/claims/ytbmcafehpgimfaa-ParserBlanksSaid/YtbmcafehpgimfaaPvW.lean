/- What the pieces of the functions do, as functions of their data. Printed by pack4.py. -/
import Derived.Test.YtbmcafehpgimfaaPv0
namespace Go.Proofs.Ytbmcafehpgimfaa.Ps
set_option maxHeartbeats 0
set_option maxRecDepth 100000
set_option linter.unusedVariables false
open Go Go.RowKit
open Go.IntKind renaming i64 → iK, u8 → uK
noncomputable def e9 (Γ : Bool → SemL) (n1 : Nat) (s0 : ByteArray) (r1 : List (List D)) : Option Out := runF Γ shp rc false (shp 9) sf9 n1 [V.one (X.d (D.str s0)), V.one (X.d (D.list 1 r1))]
  []
noncomputable def q9_0 (Γ : Bool → SemL) (n1 : Nat) (s0 : ByteArray) (r1 r2 : List (List D)) : Option Out := Jn (Γ false) shp n1 j9_0 (St.mk [(0, V.one (X.d (D.str s0))),
  (1, V.one (X.d (D.list 1 r1))), (5, V.one (X.d (D.list 5 r2)))] [] [] 0 0 0 []) (finK (Γ true) rc false (shp 9) (SFunc.results sf9) 0)
noncomputable def l9_0 (n0 : Nat) (Γ : Bool → SemL) (n2 : Nat) (s0 : ByteArray) (r1 r2 : List (List D)) (s3 : ByteArray) (x4 : Int) : Option Out := loopK (Γ false) shp n0
  [0, 1, 5, 7, 8] lb9_0 (St.mk [(0, V.one (X.d (D.str s0))), (1, V.one (X.d (D.list 1 r1))), (5, V.one (X.d (D.list 5 r2))), (7, V.one (X.d (D.str s3))), (8, V.one (X.d (D.int iK
  x4)))] [] [] 0 0 0 []) (kBlk 0 (kSeq (some [0, 7]) (fun s K => Jn (Γ false) shp n2 j9_4 s K) (finK (Γ true) rc false (shp 9) (SFunc.results sf9) 0)))
noncomputable def q9_1 (Γ : Bool → SemL) (n1 : Nat) (n2 : Nat) (s0 : ByteArray) (r1 r2 : List (List D)) (s3 : ByteArray) (x4 : Int) : Option Out := Jn (Γ false) shp n1 j9_1
  (St.mk [(0, V.one (X.d (D.str s0))), (1, V.one (X.d (D.list 1 r1))), (5, V.one (X.d (D.list 5 r2))), (7, V.one (X.d (D.str s3))), (8, V.one (X.d (D.int iK x4)))] [] [] 0 0 0 [])
  (kLoop (loopK (Γ false) shp n1) [0, 1, 5, 7, 8] lb9_0 (kBlk 0 (kSeq (some [0, 7]) (fun s K => Jn (Γ false) shp n2 j9_4 s K) (finK (Γ true) rc false (shp 9) (SFunc.results sf9) 0))))
noncomputable def q9_4 (Γ : Bool → SemL) (n1 : Nat) (s0 s1 : ByteArray) : Option Out := Jn (Γ false) shp n1 j9_4 (St.mk [(0, V.one (X.d (D.str s0))), (7, V.one (X.d (D.str
  s1)))] [] [] 0 0 0 []) (finK (Γ true) rc false (shp 9) (SFunc.results sf9) 0)
noncomputable def q9_2 (Γ : Bool → SemL) (n1 : Nat) (n2 : Nat) (s0 : ByteArray) (r1 r2 : List (List D)) (s3 : ByteArray) (x4 : Int) (s5 : ByteArray) : Option Out := Jn (Γ
  false) shp n1 j9_2 (St.mk [(0, V.one (X.d (D.str s0))), (1, V.one (X.d (D.list 1 r1))), (5, V.one (X.d (D.list 5 r2))), (7, V.one (X.d (D.str s3))), (8, V.one (X.d (D.int iK x4))),
  (9, V.one (X.d (D.str s5)))] [] [] 0 0 0 []) (kBlk 1 (kSeq (some [0, 1, 5, 7, 8]) (fun s K => Jn (Γ false) shp n1 j9_3 s K) (kLoop (loopK (Γ false) shp n1) [0, 1, 5, 7, 8] lb9_0 (kBlk 0
  (kSeq (some [0, 7]) (fun s K => Jn (Γ false) shp n2 j9_4 s K) (finK (Γ true) rc false (shp 9) (SFunc.results sf9) 0))))))
noncomputable def q9_5 (Γ : Bool → SemL) (n1 : Nat) (s0 s1 : ByteArray) : Option Out := Jn (Γ false) shp n1 j9_5 (St.mk [(0, V.one (X.d (D.str s0))), (7, V.one (X.d (D.str
  s1)))] [] [] 0 0 0 []) (finK (Γ true) rc false (shp 9) (SFunc.results sf9) 0)
noncomputable def q9_3 (Γ : Bool → SemL) (n1 : Nat) (n2 : Nat) (s0 : ByteArray) (r1 r2 : List (List D)) (s3 : ByteArray) (x4 : Int) : Option Out := Jn (Γ false) shp n1 j9_3
  (St.mk [(0, V.one (X.d (D.str s0))), (1, V.one (X.d (D.list 1 r1))), (5, V.one (X.d (D.list 5 r2))), (7, V.one (X.d (D.str s3))), (8, V.one (X.d (D.int iK x4)))] [] [] 0 0 0 [])
  (kLoop (loopK (Γ false) shp n1) [0, 1, 5, 7, 8] lb9_0 (kBlk 0 (kSeq (some [0, 7]) (fun s K => Jn (Γ false) shp n2 j9_4 s K) (finK (Γ true) rc false (shp 9) (SFunc.results sf9) 0))))
theorem e9_eq (Γ : Bool → SemL) (n1 : Nat) (s0 : ByteArray) (r1 : List (List D)) : e9 Γ n1 s0 r1 = r_t2oL5a4ISII (Γ false 21 [V.one (X.d (D.str s0))] []) (fun w0_ i1_ u2_ i3_ i4_ => bif
  decide (Int.ofNat (ByteArray.size s0) > 3000) then r_oB (Γ false 10 [] []) (fun c6_ => some (Out.mk true (V.one (X.d (D.bool c6_))) D.junk [] 0)) fun d7_ => some (Out.mk false V.junk d7_ []
  0) else bif i1_ != 0 then r_oB (Γ false 10 [] []) (fun c8_ => some (Out.mk true (V.one (X.d (D.bool c8_))) D.junk [] 0)) fun d9_ => some (Out.mk false V.junk d9_ [] 0) else bif decide
  (Int.ofNat (List.length r1) > 3000) then r_oB (Γ false 10 [] []) (fun c10_ => some (Out.mk true (V.one (X.d (D.bool c10_))) D.junk [] 0)) fun d11_ => some (Out.mk false V.junk d11_ [] 0)
  else q9_0 Γ n1 s0 r1 w0_) fun d5_ => some (Out.mk false V.junk d5_ [] 0) := (run_step ..).trans (by kernel_rfl)
theorem q9_0_eq (Γ : Bool → SemL) (n1 : Nat) (s0 : ByteArray) (r1 r2 : List (List D)) : q9_0 Γ n1 s0 r1 r2 = l9_0 n1 Γ n1 s0 r1 r2 (ByteArray.mk #[]) 0 := (Jn_step ..).trans
  (by kernel_rfl)
theorem l9_0_eq (n0 : Nat) (Γ : Bool → SemL) (n2 : Nat) (s0 : ByteArray) (r1 r2 : List (List D)) (s3 : ByteArray) (x4 : Int) : l9_0 (n0 + 1) Γ n2 s0 r1 r2 s3 x4 = bif decide
  (x4 < Int.ofNat (List.length r2)) then q9_1 Γ n0 n2 s0 r1 r2 s3 x4 else q9_4 Γ n2 s0 s3 := (loop_step ..).trans (by kernel_rfl)
theorem q9_1_eq (Γ : Bool → SemL) (n1 : Nat) (n2 : Nat) (s0 : ByteArray) (r1 r2 : List (List D)) (s3 : ByteArray) (x4 : Int) : q9_1 Γ n1 n2 s0 r1 r2 s3 x4 = bif decide (x4 <
  Int.ofNat (List.length r1)) then bif decide (0 ≤ x4) && decide (x4 < Int.ofNat (List.length r1)) then bif D.isInt uK (List.getD (List.getD r1 (Int.toNat x4) []) 0 D.junk) then bif
  Int.tmod (D.num (List.getD (List.getD r1 (Int.toNat x4) []) 0 D.junk)) 5 == 1 then q9_2 Γ n1 n2 s0 r1 r2 s3 x4 (ByteArray.mk #[10]) else bif Int.tmod (D.num (List.getD (List.getD r1
  (Int.toNat x4) []) 0 D.junk)) 5 == 2 then q9_2 Γ n1 n2 s0 r1 r2 s3 x4 (ByteArray.mk #[9, 32, 32, 13]) else bif Int.tmod (D.num (List.getD (List.getD r1 (Int.toNat x4) []) 0 D.junk)) 5 == 3
  then q9_2 Γ n1 n2 s0 r1 r2 s3 x4 (ByteArray.mk #[32, 35, 32, 108, 101, 116, 32, 105, 110, 32, 41, 10]) else bif Int.tmod (D.num (List.getD (List.getD r1 (Int.toNat x4) []) 0 D.junk)) 5 == 4
  then q9_2 Γ n1 n2 s0 r1 r2 s3 x4 (ByteArray.mk #[35, 10, 10]) else q9_2 Γ n1 n2 s0 r1 r2 s3 x4 (ByteArray.mk #[32]) else none else none else q9_2 Γ n1 n2 s0 r1 r2 s3 x4 (ByteArray.mk #[32])
  := (Jn_step ..).trans (by kernel_rfl)
theorem q9_4_eq (Γ : Bool → SemL) (n1 : Nat) (s0 s1 : ByteArray) : q9_4 Γ n1 s0 s1 = bif decide (Int.ofNat (ByteArray.size s1) > 20000) then r_oB (Γ false 10 [] []) (fun c0_ =>
  some (Out.mk true (V.one (X.d (D.bool c0_))) D.junk [] 0)) fun d1_ => some (Out.mk false V.junk d1_ [] 0) else q9_5 Γ n1 s0 s1 := (Jn_step ..).trans (by kernel_rfl)
theorem q9_2_eq (Γ : Bool → SemL) (n1 : Nat) (n2 : Nat) (s0 : ByteArray) (r1 r2 : List (List D)) (s3 : ByteArray) (x4 : Int) (s5 : ByteArray) : q9_2 Γ n1 n2 s0 r1 r2 s3 x4
  s5 = bif Nat.ble (ByteArray.size s3 + ByteArray.size s5) 9223372036854775807 then bif decide (0 ≤ x4) && decide (x4 < Int.ofNat (List.length r2)) then bif D.isStr (List.getD (List.getD r2
  (Int.toNat x4) []) 1 D.junk) then bif Nat.ble (ByteArray.size (s3 ++ s5) + ByteArray.size (D.bytes (List.getD (List.getD r2 (Int.toNat x4) []) 1 D.junk))) 9223372036854775807 then q9_3 Γ n1
  n2 s0 r1 r2 (s3 ++ s5 ++ D.bytes (List.getD (List.getD r2 (Int.toNat x4) []) 1 D.junk)) x4 else none else none else none else none := (Jn_step ..).trans (by kernel_rfl)
theorem q9_5_eq (Γ : Bool → SemL) (n1 : Nat) (s0 s1 : ByteArray) : q9_5 Γ n1 s0 s1 = r_t2a10L5L14IISL1L1L8IIa4ISII (Γ false 19 [V.one (X.d (D.str s0))] []) (fun w0_ w1_ i2_ i3_
  u4_ w5_ w6_ w7_ i8_ i9_ i10_ u11_ i12_ i13_ => r_t2a10L5L14IISL1L1L8IIa4ISII (Γ false 19 [V.one (X.d (D.str s1))] []) (fun w15_ w16_ i17_ i18_ u19_ w20_ w21_ w22_ i23_ i24_ i25_ u26_ i27_
  i28_ => bif i10_ == i25_ then bif beqL (Array.toList (ByteArray.data u11_)) (Array.toList (ByteArray.data u26_)) then bif i10_ != 0 then r_oB (Γ false 10 [] []) (fun c30_ => some (Out.mk
  true (V.one (X.d (D.bool c30_))) D.junk [] 0)) fun d31_ => some (Out.mk false V.junk d31_ [] 0) else r_oB (Γ false 17 [V.agg [X.d (D.list 5 w0_), X.d (D.list 14 w1_), X.d (D.int iK
  i2_), X.d (D.int iK i3_), X.d (D.str u4_), X.d (D.list 1 w5_), X.d (D.list 1 w6_), X.d (D.list 8 w7_), X.d (D.int iK i8_), X.d (D.int iK i9_)], V.agg [X.d (D.list
  5 w15_), X.d (D.list 14 w16_), X.d (D.int iK i17_), X.d (D.int iK i18_), X.d (D.str u19_), X.d (D.list 1 w20_), X.d (D.list 1 w21_), X.d (D.list 8 w22_), X.d (D.int
  iK i23_), X.d (D.int iK i24_)]] []) (fun c32_ => bif c32_ then r_oB (Γ false 10 [] []) (fun c34_ => some (Out.mk true (V.one (X.d (D.bool c34_))) D.junk [] 0)) fun d35_ =>
  some (Out.mk false V.junk d35_ [] 0) else some (Out.mk true (V.one (X.d (D.bool false))) D.junk [] 0)) fun d33_ => some (Out.mk false V.junk d33_ [] 0) else some (Out.mk true (V.one (X.d
  (D.bool false))) D.junk [] 0) else some (Out.mk true (V.one (X.d (D.bool false))) D.junk [] 0)) fun d29_ => some (Out.mk false V.junk d29_ [] 0)) fun d14_ => some (Out.mk false V.junk d14_
  [] 0) := (Jn_step ..).trans (by kernel_rfl)
theorem q9_3_eq (Γ : Bool → SemL) (n1 : Nat) (n2 : Nat) (s0 : ByteArray) (r1 r2 : List (List D)) (s3 : ByteArray) (x4 : Int) : q9_3 Γ n1 n2 s0 r1 r2 s3 x4 = l9_0 n1 Γ n2 s0
  r1 r2 s3 (IntKind.wrap iK (x4 + 1)) := (Jn_step ..).trans (by kernel_rfl)
theorem call9 (s0 : ByteArray) (r1 : List (List D)) {o : Out} (h : Ev (fun _ k n => e9 (Ak k) n s0 r1) o) : Cal 9 [V.one (X.d (D.str s0)), V.one (X.d (D.list 1 r1))] [] o := Ev.call (E := fun
  Γ n1 => e9 Γ n1 s0 r1) (fun k => call_step (by kernel_rfl) rfl) h
end Go.Proofs.Ytbmcafehpgimfaa.Ps
