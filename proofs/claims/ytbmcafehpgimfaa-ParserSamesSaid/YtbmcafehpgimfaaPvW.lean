/- What the pieces of the functions do, as functions of their data. Printed by pack4.py. -/
import Derived.Test.YtbmcafehpgimfaaPv0
namespace Go.Proofs.Ytbmcafehpgimfaa.Ps
set_option maxHeartbeats 0
set_option maxRecDepth 100000
set_option linter.unusedVariables false
open Go Go.RowKit
open Go.IntKind renaming i64 → iK, u8 → uK
noncomputable def e4 (Γ : Bool → SemL) (n1 : Nat) (r0 r1 : List (List D)) (x2 x3 : Int) (s4 : ByteArray) (r5 r6 r7 : List (List D)) (x8 x9 : Int) (r10 r11 : List (List D)) (x12 x13 : Int) (s14 : ByteArray) (r15 r16 r17 : List (List D)) (x18 x19 : Int) : Option Out := runF Γ shp rc false (shp 4) sf4 n1 [V.agg [X.d (D.list 5 r0), X.d (D.list 14 r1), X.d (D.int iK x2), X.d (D.int iK x3), X.d (D.str s4), X.d
  (D.list 1 r5), X.d (D.list 1 r6), X.d (D.list 8 r7), X.d (D.int iK x8), X.d (D.int iK x9)], V.agg [X.d (D.list 5 r10), X.d (D.list 14 r11), X.d (D.int iK x12),
  X.d (D.int iK x13), X.d (D.str s14), X.d (D.list 1 r15), X.d (D.list 1 r16), X.d (D.list 8 r17), X.d (D.int iK x18), X.d (D.int iK x19)]] []
noncomputable def e14 (Γ : Bool → SemL) (n1 : Nat) (x0 : Int) (r1 r2 : List (List D)) (x3 x4 : Int) (s5 : ByteArray) (r6 r7 r8 : List (List D)) (x9 x10 : Int) : Option Out := runF Γ shp rc false (shp 14) sf14 n1 [V.one (X.d (D.int iK x0)), V.agg [X.d (D.list 5 r1), X.d (D.list 14 r2), X.d (D.int
  iK x3), X.d (D.int iK x4), X.d (D.str s5), X.d (D.list 1 r6), X.d (D.list 1 r7), X.d (D.list 8 r8), X.d (D.int iK x9), X.d (D.int iK x10)]] []
noncomputable def q4_0 (Γ : Bool → SemL) (n1 : Nat) (r0 r1 : List (List D)) (x2 x3 : Int) (s4 : ByteArray) (r5 r6 r7 : List (List D)) (x8 x9 : Int) (r10 r11 : List (List D)) (x12 x13 : Int) (s14 : ByteArray) (r15 r16 r17 : List (List D)) (x18 x19 : Int) : Option Out := Jn (Γ false) shp n1 j4_0 (St.mk [(2, V.one (X.ptr 0 0)), (3, V.one (X.ptr 1 0))] [(0, Blk.mk [Lf.lst 5, Lf.lst 14, Lf.int iK, Lf.int iK,
  Lf.str, Lf.lst 1, Lf.lst 1, Lf.lst 8, Lf.int iK, Lf.int iK] [X.d (D.list 5 r0), X.d (D.list 14 r1), X.d (D.int iK x2), X.d (D.int iK x3), X.d (D.str s4),
  X.d (D.list 1 r5), X.d (D.list 1 r6), X.d (D.list 8 r7), X.d (D.int iK x8), X.d (D.int iK x9)]), (1, Blk.mk [Lf.lst 5, Lf.lst 14, Lf.int iK, Lf.int iK,
  Lf.str, Lf.lst 1, Lf.lst 1, Lf.lst 8, Lf.int iK, Lf.int iK] [X.d (D.list 5 r10), X.d (D.list 14 r11), X.d (D.int iK x12), X.d (D.int iK x13), X.d (D.str
  s14), X.d (D.list 1 r15), X.d (D.list 1 r16), X.d (D.list 8 r17), X.d (D.int iK x18), X.d (D.int iK x19)])] [] 2 0 0 []) (finK (Γ true) rc false (shp 4) (SFunc.results
  sf4) 0)
noncomputable def q14_0 (Γ : Bool → SemL) (n1 : Nat) (x0 : Int) (r1 r2 : List (List D)) (x3 x4 : Int) (s5 : ByteArray) (r6 r7 r8 : List (List D)) (x9 x10 : Int) : Option Out := Jn (Γ false) shp n1 j14_0 (St.mk [(0, V.one (X.d (D.int iK x0))), (3, V.one (X.ptr 0 0))] [(0, Blk.mk [Lf.lst 5, Lf.lst 14,
  Lf.int iK, Lf.int iK, Lf.str, Lf.lst 1, Lf.lst 1, Lf.lst 8, Lf.int iK, Lf.int iK] [X.d (D.list 5 r1), X.d (D.list 14 r2), X.d (D.int iK x3), X.d
  (D.int iK x4), X.d (D.str s5), X.d (D.list 1 r6), X.d (D.list 1 r7), X.d (D.list 8 r8), X.d (D.int iK x9), X.d (D.int iK x10)])] [] 1 0 0 []) (finK (Γ true) rc
  false (shp 14) (SFunc.results sf14) 0)
noncomputable def l14_0 (n0 : Nat) (Γ : Bool → SemL) (n2 : Nat) (x0 : Int) (r1 : List (List D)) (x2 : Int) (r3 r4 : List (List D)) (x5 x6 : Int) (s7 : ByteArray) (r8 r9 r10 : List (List D)) (x11 x12 : Int) : Option Out := loopK (Γ false) shp n0 [0, 3, 5, 6, 7] lb14_0 (St.mk [(0, V.one (X.d (D.int iK
  x0))), (3, V.one (X.ptr 0 0)), (5, V.one (X.own 0 27 8 r1)), (6, V.one (X.nilL 2)), (7, V.one (X.d (D.int iK x2)))] [(0, Blk.mk [Lf.lst 5, Lf.lst 14, Lf.int iK, Lf.int
  iK, Lf.str, Lf.lst 1, Lf.lst 1, Lf.lst 8, Lf.int iK, Lf.int iK] [X.d (D.list 5 r3), X.d (D.list 14 r4), X.d (D.int iK x5), X.d (D.int iK x6),
  X.d (D.str s7), X.d (D.list 1 r8), X.d (D.list 1 r9), X.d (D.list 8 r10), X.d (D.int iK x11), X.d (D.int iK x12)])] [0] 1 1 0 []) (kBlk 0 (kSeq (some [0, 3, 5, 6]) (fun s
  K => Jn (Γ false) shp n2 j14_3 s K) (finK (Γ true) rc false (shp 14) (SFunc.results sf14) 0)))
noncomputable def q14_1 (Γ : Bool → SemL) (n1 : Nat) (n2 : Nat) (x0 : Int) (r1 : List (List D)) (x2 : Int) (r3 r4 : List (List D)) (x5 x6 : Int) (s7 : ByteArray) (r8 r9 r10 : List (List D)) (x11 x12 : Int) : Option Out := Jn (Γ false) shp n1 j14_1 (St.mk [(0, V.one (X.d (D.int iK x0))), (3, V.one
  (X.ptr 0 0)), (5, V.one (X.own 0 27 8 r1)), (6, V.one (X.nilL 2)), (7, V.one (X.d (D.int iK x2)))] [(0, Blk.mk [Lf.lst 5, Lf.lst 14, Lf.int iK, Lf.int iK, Lf.str,
  Lf.lst 1, Lf.lst 1, Lf.lst 8, Lf.int iK, Lf.int iK] [X.d (D.list 5 r3), X.d (D.list 14 r4), X.d (D.int iK x5), X.d (D.int iK x6), X.d (D.str s7), X.d
  (D.list 1 r8), X.d (D.list 1 r9), X.d (D.list 8 r10), X.d (D.int iK x11), X.d (D.int iK x12)])] [0] 1 1 0 []) (kLoop (loopK (Γ false) shp n1) [0, 3, 5, 6, 7] lb14_0 (kBlk
  0 (kSeq (some [0, 3, 5, 6]) (fun s K => Jn (Γ false) shp n2 j14_3 s K) (finK (Γ true) rc false (shp 14) (SFunc.results sf14) 0))))
noncomputable def q14_3 (Γ : Bool → SemL) (n1 : Nat) (x0 : Int) (r1 r2 r3 : List (List D)) (x4 x5 : Int) (s6 : ByteArray) (r7 r8 r9 : List (List D)) (x10 x11 : Int) : Option Out := Jn (Γ false) shp n1 j14_3 (St.mk [(0, V.one (X.d (D.int iK x0))), (3, V.one (X.ptr 0 0)), (5, V.one
  (X.own 0 27 8 r1)), (6, V.one (X.nilL 2))] [(0, Blk.mk [Lf.lst 5, Lf.lst 14, Lf.int iK, Lf.int iK, Lf.str, Lf.lst 1, Lf.lst 1, Lf.lst 8, Lf.int iK, Lf.int
  iK] [X.d (D.list 5 r2), X.d (D.list 14 r3), X.d (D.int iK x4), X.d (D.int iK x5), X.d (D.str s6), X.d (D.list 1 r7), X.d (D.list 1 r8), X.d (D.list 8 r9), X.d
  (D.int iK x10), X.d (D.int iK x11)])] [0] 1 1 0 []) (finK (Γ true) rc false (shp 14) (SFunc.results sf14) 0)
noncomputable def q14_2 (Γ : Bool → SemL) (n1 : Nat) (n2 : Nat) (x0 : Int) (r1 r2 : List (List D)) (x3 : Int) (r4 r5 : List (List D)) (x6 x7 : Int)
  (s8 : ByteArray) (r9 r10 r11 : List (List D)) (x12 x13 : Int) : Option Out := Jn (Γ false) shp n1 j14_2 (St.mk [(0, V.one (X.d (D.int iK
  x0))), (3, V.one (X.ptr 0 0)), (5, V.one (X.own 0 27 8 r1)), (6, V.one (X.own 1 55 2 r2)), (7, V.one (X.d (D.int iK x3)))] [(0, Blk.mk [Lf.lst 5, Lf.lst 14, Lf.int iK,
  Lf.int iK, Lf.str, Lf.lst 1, Lf.lst 1, Lf.lst 8, Lf.int iK, Lf.int iK] [X.d (D.list 5 r4), X.d (D.list 14 r5), X.d (D.int iK x6), X.d (D.int iK
  x7), X.d (D.str s8), X.d (D.list 1 r9), X.d (D.list 1 r10), X.d (D.list 8 r11), X.d (D.int iK x12), X.d (D.int iK x13)])] [0, 1] 1 2 0 []) (kLoop (loopK (Γ false) shp n1)
  [0, 3, 5, 6, 7] lb14_0 (kBlk 0 (kSeq (some [0, 3, 5, 6]) (fun s K => Jn (Γ false) shp n2 j14_3 s K) (finK (Γ true) rc false (shp 14) (SFunc.results sf14) 0))))
noncomputable def l14_1 (n0 : Nat) (Γ : Bool → SemL) (n2 : Nat) (x0 : Int) (r1 : List (List D)) (x2 : Int) (r3 r4 : List (List D)) (x5 x6 : Int) (s7 : ByteArray) (r8 r9 r10 : List (List D)) (x11 x12 : Int) : Option Out := loopK (Γ false) shp n0 [0, 3, 5, 6, 8] lb14_1 (St.mk [(0, V.one (X.d (D.int iK
  x0))), (3, V.one (X.ptr 0 0)), (5, V.one (X.own 0 27 8 r1)), (6, V.one (X.nilL 2)), (8, V.one (X.d (D.int iK x2)))] [(0, Blk.mk [Lf.lst 5, Lf.lst 14, Lf.int iK, Lf.int
  iK, Lf.str, Lf.lst 1, Lf.lst 1, Lf.lst 8, Lf.int iK, Lf.int iK] [X.d (D.list 5 r3), X.d (D.list 14 r4), X.d (D.int iK x5), X.d (D.int iK x6),
  X.d (D.str s7), X.d (D.list 1 r8), X.d (D.list 1 r9), X.d (D.list 8 r10), X.d (D.int iK x11), X.d (D.int iK x12)])] [0] 1 1 0 []) (kBlk 2 (kSeq (some [0, 5, 6]) (fun s K
  => Jn (Γ false) shp n2 j14_9 s K) (finK (Γ true) rc false (shp 14) (SFunc.results sf14) 0)))
noncomputable def l14_0_v1 (n0 : Nat) (Γ : Bool → SemL) (n2 : Nat) (x0 : Int) (r1 r2 : List (List D)) (x3 : Int) (r4 r5 : List (List D)) (x6 x7 : Int) (s8 : ByteArray) (r9 r10 r11 : List (List D)) (x12 x13 : Int) : Option Out := loopK (Γ false) shp n0 [0, 3, 5, 6, 7] lb14_0 (St.mk [(0,
  V.one (X.d (D.int iK x0))), (3, V.one (X.ptr 0 0)), (5, V.one (X.own 0 27 8 r1)), (6, V.one (X.own 1 55 2 r2)), (7, V.one (X.d (D.int iK x3)))] [(0, Blk.mk [Lf.lst 5,
  Lf.lst 14, Lf.int iK, Lf.int iK, Lf.str, Lf.lst 1, Lf.lst 1, Lf.lst 8, Lf.int iK, Lf.int iK] [X.d (D.list 5 r4), X.d (D.list 14 r5), X.d (D.int
  iK x6), X.d (D.int iK x7), X.d (D.str s8), X.d (D.list 1 r9), X.d (D.list 1 r10), X.d (D.list 8 r11), X.d (D.int iK x12), X.d (D.int iK x13)])] [0, 1] 1
  2 0 []) (kBlk 0 (kSeq (some [0, 3, 5, 6]) (fun s K => Jn (Γ false) shp n2 j14_3 s K) (finK (Γ true) rc false (shp 14) (SFunc.results sf14) 0)))
noncomputable def q14_4 (Γ : Bool → SemL) (n1 : Nat) (n2 : Nat) (x0 : Int) (r1 : List (List D)) (x2 : Int) (r3 r4 : List (List D)) (x5 x6 : Int) (s7 : ByteArray) (r8 r9 r10 : List (List D)) (x11 x12 : Int) : Option Out := Jn (Γ false) shp n1 j14_4 (St.mk [(0, V.one (X.d (D.int iK x0))), (3, V.one
  (X.ptr 0 0)), (5, V.one (X.own 0 27 8 r1)), (6, V.one (X.nilL 2)), (8, V.one (X.d (D.int iK x2)))] [(0, Blk.mk [Lf.lst 5, Lf.lst 14, Lf.int iK, Lf.int iK, Lf.str,
  Lf.lst 1, Lf.lst 1, Lf.lst 8, Lf.int iK, Lf.int iK] [X.d (D.list 5 r3), X.d (D.list 14 r4), X.d (D.int iK x5), X.d (D.int iK x6), X.d (D.str s7), X.d
  (D.list 1 r8), X.d (D.list 1 r9), X.d (D.list 8 r10), X.d (D.int iK x11), X.d (D.int iK x12)])] [0] 1 1 0 []) (kLoop (loopK (Γ false) shp n1) [0, 3, 5, 6, 8] lb14_1 (kBlk
  2 (kSeq (some [0, 5, 6]) (fun s K => Jn (Γ false) shp n2 j14_9 s K) (finK (Γ true) rc false (shp 14) (SFunc.results sf14) 0))))
noncomputable def q14_9 (Γ : Bool → SemL) (n1 : Nat) (x0 : Int) (r1 : List (List D)) : Option Out := Jn (Γ false) shp n1 j14_9 (St.mk [(0, V.one (X.d (D.int iK x0))), (5, V.one
  (X.own 0 27 8 r1)), (6, V.one (X.nilL 2))] [] [0] 0 1 0 []) (finK (Γ true) rc false (shp 14) (SFunc.results sf14) 0)
noncomputable def q14_1_v1 (Γ : Bool → SemL) (n1 : Nat) (n2 : Nat) (x0 : Int) (r1 r2 : List (List D)) (x3 : Int) (r4 r5 : List (List D)) (x6 x7 : Int) (s8 : ByteArray) (r9 r10 r11 : List (List D)) (x12 x13 : Int) : Option Out := Jn (Γ false) shp n1 j14_1 (St.mk [(0, V.one (X.d (D.int
  iK x0))), (3, V.one (X.ptr 0 0)), (5, V.one (X.own 0 27 8 r1)), (6, V.one (X.own 1 55 2 r2)), (7, V.one (X.d (D.int iK x3)))] [(0, Blk.mk [Lf.lst 5, Lf.lst 14, Lf.int
  iK, Lf.int iK, Lf.str, Lf.lst 1, Lf.lst 1, Lf.lst 8, Lf.int iK, Lf.int iK] [X.d (D.list 5 r4), X.d (D.list 14 r5), X.d (D.int iK x6), X.d (D.int
  iK x7), X.d (D.str s8), X.d (D.list 1 r9), X.d (D.list 1 r10), X.d (D.list 8 r11), X.d (D.int iK x12), X.d (D.int iK x13)])] [0, 1] 1 2 0 []) (kLoop (loopK (Γ
  false) shp n1) [0, 3, 5, 6, 7] lb14_0 (kBlk 0 (kSeq (some [0, 3, 5, 6]) (fun s K => Jn (Γ false) shp n2 j14_3 s K) (finK (Γ true) rc false (shp 14) (SFunc.results sf14) 0))))
noncomputable def q14_3_v1 (Γ : Bool → SemL) (n1 : Nat) (x0 : Int) (r1 r2 r3 r4 : List (List D)) (x5 x6 : Int) (s7 : ByteArray)
  (r8 r9 r10 : List (List D)) (x11 x12 : Int) : Option Out := Jn (Γ false) shp n1 j14_3 (St.mk [(0, V.one (X.d (D.int iK x0))), (3, V.one
  (X.ptr 0 0)), (5, V.one (X.own 0 27 8 r1)), (6, V.one (X.own 1 55 2 r2))] [(0, Blk.mk [Lf.lst 5, Lf.lst 14, Lf.int iK, Lf.int iK, Lf.str, Lf.lst 1, Lf.lst 1, Lf.lst 8,
  Lf.int iK, Lf.int iK] [X.d (D.list 5 r3), X.d (D.list 14 r4), X.d (D.int iK x5), X.d (D.int iK x6), X.d (D.str s7), X.d (D.list 1 r8), X.d (D.list 1 r9),
  X.d (D.list 8 r10), X.d (D.int iK x11), X.d (D.int iK x12)])] [0, 1] 1 2 0 []) (finK (Γ true) rc false (shp 14) (SFunc.results sf14) 0)
noncomputable def q14_5 (Γ : Bool → SemL) (n1 : Nat) (n2 : Nat) (x0 : Int) (r1 : List (List D)) (x2 : Int) (r3 r4 : List (List D)) (x5 x6 : Int) (s7 : ByteArray) (r8 r9 r10 : List (List D)) (x11 x12 : Int) : Option Out := Jn (Γ false) shp n1 j14_5 (St.mk [(0, V.one (X.d (D.int iK x0))), (3, V.one
  (X.ptr 0 0)), (5, V.one (X.own 0 27 8 r1)), (6, V.one (X.nilL 2)), (8, V.one (X.d (D.int iK x2)))] [(0, Blk.mk [Lf.lst 5, Lf.lst 14, Lf.int iK, Lf.int iK, Lf.str,
  Lf.lst 1, Lf.lst 1, Lf.lst 8, Lf.int iK, Lf.int iK] [X.d (D.list 5 r3), X.d (D.list 14 r4), X.d (D.int iK x5), X.d (D.int iK x6), X.d (D.str s7), X.d
  (D.list 1 r8), X.d (D.list 1 r9), X.d (D.list 8 r10), X.d (D.int iK x11), X.d (D.int iK x12)])] [0] 1 1 0 []) (kBlk 3 (kSeq (some [0, 3, 5, 6, 8]) (fun s K => Jn (Γ false)
  shp n1 j14_8 s K) (kLoop (loopK (Γ false) shp n1) [0, 3, 5, 6, 8] lb14_1 (kBlk 2 (kSeq (some [0, 5, 6]) (fun s K => Jn (Γ false) shp n2 j14_9 s K) (finK (Γ true) rc false (shp 14)
  (SFunc.results sf14) 0))))))
noncomputable def e30 (Γ : Bool → SemL) (n1 : Nat) (x0 : Int) (r1 : List (List D)) : Option Out := runF Γ shp rc false (shp 30) sf30 n1 [V.one (X.d (D.int iK x0)), V.one (X.d (D.list
  8 r1))] []
noncomputable def e31 (Γ : Bool → SemL) (n1 : Nat) (x0 : Int) : Option Out := runF Γ shp rc false (shp 31) sf31 n1 [V.one (X.d (D.int iK x0)), V.one (X.nilL 2)] []
noncomputable def l14_1_v1 (n0 : Nat) (Γ : Bool → SemL) (n2 : Nat) (x0 : Int) (r1 r2 : List (List D)) (x3 : Int) (r4 r5 : List (List D)) (x6 x7 : Int) (s8 : ByteArray) (r9 r10 r11 : List (List D)) (x12 x13 : Int) : Option Out := loopK (Γ false) shp n0 [0, 3, 5, 6, 8] lb14_1 (St.mk [(0,
  V.one (X.d (D.int iK x0))), (3, V.one (X.ptr 0 0)), (5, V.one (X.own 0 27 8 r1)), (6, V.one (X.own 1 55 2 r2)), (8, V.one (X.d (D.int iK x3)))] [(0, Blk.mk [Lf.lst 5,
  Lf.lst 14, Lf.int iK, Lf.int iK, Lf.str, Lf.lst 1, Lf.lst 1, Lf.lst 8, Lf.int iK, Lf.int iK] [X.d (D.list 5 r4), X.d (D.list 14 r5), X.d (D.int
  iK x6), X.d (D.int iK x7), X.d (D.str s8), X.d (D.list 1 r9), X.d (D.list 1 r10), X.d (D.list 8 r11), X.d (D.int iK x12), X.d (D.int iK x13)])] [0, 1] 1
  2 0 []) (kBlk 2 (kSeq (some [0, 5, 6]) (fun s K => Jn (Γ false) shp n2 j14_9 s K) (finK (Γ true) rc false (shp 14) (SFunc.results sf14) 0)))
noncomputable def l14_2 (n0 : Nat) (Γ : Bool → SemL) (n2 : Nat) (n3 : Nat) (x0 : Int) (r1 r2 : List (List D)) (x3 x4 : Int) (r5 r6 : List (List D))
  (x7 x8 : Int) (s9 : ByteArray) (r10 r11 r12 : List (List D)) (x13 x14 : Int) : Option Out := loopK (Γ false) shp n0 [0, 3, 5, 6, 8, 9]
  lb14_2 (St.mk [(0, V.one (X.d (D.int iK x0))), (3, V.one (X.ptr 0 0)), (5, V.one (X.own 0 27 8 r1)), (6, V.one (X.own 1 55 2 r2)), (8, V.one (X.d (D.int iK x3))), (9,
  V.one (X.d (D.int iK x4)))] [(0, Blk.mk [Lf.lst 5, Lf.lst 14, Lf.int iK, Lf.int iK, Lf.str, Lf.lst 1, Lf.lst 1, Lf.lst 8, Lf.int iK, Lf.int iK]
  [X.d (D.list 5 r5), X.d (D.list 14 r6), X.d (D.int iK x7), X.d (D.int iK x8), X.d (D.str s9), X.d (D.list 1 r10), X.d (D.list 1 r11), X.d (D.list 8 r12), X.d (D.int
  iK x13), X.d (D.int iK x14)])] [0, 1] 1 2 0 []) (kBlk 4 (kBlk 3 (kSeq (some [0, 3, 5, 6, 8]) (fun s K => Jn (Γ false) shp n2 j14_8 s K) (kLoop (loopK (Γ false) shp n2) [0,
  3, 5, 6, 8] lb14_1 (kBlk 2 (kSeq (some [0, 5, 6]) (fun s K => Jn (Γ false) shp n3 j14_9 s K) (finK (Γ true) rc false (shp 14) (SFunc.results sf14) 0)))))))
noncomputable def l30_0 (n0 : Nat) (Γ : Bool → SemL) (n2 : Nat) (x0 : Int) (r1 : List (List D)) (x2 x3 : Int) : Option Out := loopK (Γ false) shp n0 [0, 1, 5, 6] lb30_0 (St.mk [(0,
  V.one (X.d (D.int iK x0))), (1, V.one (X.d (D.list 8 r1))), (5, V.one (X.d (D.int iK x2))), (6, V.one (X.d (D.int iK x3)))] [] [] 0 0 0 []) (kBlk 0 (kSeq (some
  [0, 5]) (fun s K => Jn (Γ false) shp n2 j30_2 s K) (finK (Γ true) rc false (shp 30) (SFunc.results sf30) 0)))
noncomputable def l31_0 (n0 : Nat) (Γ : Bool → SemL) (n2 : Nat) (x0 x1 x2 : Int) : Option Out := loopK (Γ false) shp n0 [0, 1, 5, 6] lb31_0 (St.mk [(0, V.one (X.d (D.int
  iK x0))), (1, V.one (X.nilL 2)), (5, V.one (X.d (D.int iK x1))), (6, V.one (X.d (D.int iK x2)))] [] [] 0 0 0 []) (kBlk 0 (kSeq (some [0, 5]) (fun s K => Jn (Γ
  false) shp n2 j31_2 s K) (finK (Γ true) rc false (shp 31) (SFunc.results sf31) 0)))
noncomputable def q14_4_v1 (Γ : Bool → SemL) (n1 : Nat) (n2 : Nat) (x0 : Int) (r1 r2 : List (List D)) (x3 : Int) (r4 r5 : List (List D)) (x6 x7 : Int) (s8 : ByteArray) (r9 r10 r11 : List (List D)) (x12 x13 : Int) : Option Out := Jn (Γ false) shp n1 j14_4 (St.mk [(0, V.one (X.d (D.int
  iK x0))), (3, V.one (X.ptr 0 0)), (5, V.one (X.own 0 27 8 r1)), (6, V.one (X.own 1 55 2 r2)), (8, V.one (X.d (D.int iK x3)))] [(0, Blk.mk [Lf.lst 5, Lf.lst 14, Lf.int
  iK, Lf.int iK, Lf.str, Lf.lst 1, Lf.lst 1, Lf.lst 8, Lf.int iK, Lf.int iK] [X.d (D.list 5 r4), X.d (D.list 14 r5), X.d (D.int iK x6), X.d (D.int
  iK x7), X.d (D.str s8), X.d (D.list 1 r9), X.d (D.list 1 r10), X.d (D.list 8 r11), X.d (D.int iK x12), X.d (D.int iK x13)])] [0, 1] 1 2 0 []) (kLoop (loopK (Γ
  false) shp n1) [0, 3, 5, 6, 8] lb14_1 (kBlk 2 (kSeq (some [0, 5, 6]) (fun s K => Jn (Γ false) shp n2 j14_9 s K) (finK (Γ true) rc false (shp 14) (SFunc.results sf14) 0))))
noncomputable def q14_9_v1 (Γ : Bool → SemL) (n1 : Nat) (x0 : Int) (r1 r2 : List (List D)) : Option Out := Jn (Γ false) shp n1 j14_9 (St.mk [(0, V.one (X.d (D.int
  iK x0))), (5, V.one (X.own 0 27 8 r1)), (6, V.one (X.own 1 55 2 r2))] [] [0, 1] 0 2 0 []) (finK (Γ true) rc false (shp 14) (SFunc.results sf14) 0)
noncomputable def q14_6 (Γ : Bool → SemL) (n1 : Nat) (n2 : Nat) (n3 : Nat) (x0 : Int) (r1 r2 : List (List D)) (x3 x4 : Int) (r5 r6 : List (List D))
  (x7 x8 : Int) (s9 : ByteArray) (r10 r11 r12 : List (List D)) (x13 x14 : Int) : Option Out := Jn (Γ false) shp n1 j14_6 (St.mk [(0, V.one
  (X.d (D.int iK x0))), (3, V.one (X.ptr 0 0)), (5, V.one (X.own 0 27 8 r1)), (6, V.one (X.own 1 55 2 r2)), (8, V.one (X.d (D.int iK x3))), (9, V.one (X.d (D.int iK
  x4)))] [(0, Blk.mk [Lf.lst 5, Lf.lst 14, Lf.int iK, Lf.int iK, Lf.str, Lf.lst 1, Lf.lst 1, Lf.lst 8, Lf.int iK, Lf.int iK] [X.d (D.list 5 r5), X.d
  (D.list 14 r6), X.d (D.int iK x7), X.d (D.int iK x8), X.d (D.str s9), X.d (D.list 1 r10), X.d (D.list 1 r11), X.d (D.list 8 r12), X.d (D.int iK x13), X.d (D.int
  iK x14)])] [0, 1] 1 2 0 []) (kLoop (loopK (Γ false) shp n1) [0, 3, 5, 6, 8, 9] lb14_2 (kBlk 4 (kBlk 3 (kSeq (some [0, 3, 5, 6, 8]) (fun s K => Jn (Γ false) shp n2 j14_8 s K) (kLoop
  (loopK (Γ false) shp n2) [0, 3, 5, 6, 8] lb14_1 (kBlk 2 (kSeq (some [0, 5, 6]) (fun s K => Jn (Γ false) shp n3 j14_9 s K) (finK (Γ true) rc false (shp 14) (SFunc.results sf14) 0))))))))
noncomputable def q14_8 (Γ : Bool → SemL) (n1 : Nat) (n2 : Nat) (x0 : Int) (r1 r2 : List (List D)) (x3 : Int) (r4 r5 : List (List D)) (x6 x7 : Int)
  (s8 : ByteArray) (r9 r10 r11 : List (List D)) (x12 x13 : Int) : Option Out := Jn (Γ false) shp n1 j14_8 (St.mk [(0, V.one (X.d (D.int iK
  x0))), (3, V.one (X.ptr 0 0)), (5, V.one (X.own 0 27 8 r1)), (6, V.one (X.own 1 55 2 r2)), (8, V.one (X.d (D.int iK x3)))] [(0, Blk.mk [Lf.lst 5, Lf.lst 14, Lf.int iK,
  Lf.int iK, Lf.str, Lf.lst 1, Lf.lst 1, Lf.lst 8, Lf.int iK, Lf.int iK] [X.d (D.list 5 r4), X.d (D.list 14 r5), X.d (D.int iK x6), X.d (D.int iK
  x7), X.d (D.str s8), X.d (D.list 1 r9), X.d (D.list 1 r10), X.d (D.list 8 r11), X.d (D.int iK x12), X.d (D.int iK x13)])] [0, 1] 1 2 0 []) (kLoop (loopK (Γ false) shp n1)
  [0, 3, 5, 6, 8] lb14_1 (kBlk 2 (kSeq (some [0, 5, 6]) (fun s K => Jn (Γ false) shp n2 j14_9 s K) (finK (Γ true) rc false (shp 14) (SFunc.results sf14) 0))))
noncomputable def q30_0 (Γ : Bool → SemL) (n1 : Nat) (n2 : Nat) (x0 : Int) (r1 : List (List D)) (x2 x3 : Int) : Option Out := Jn (Γ false) shp n1 j30_0 (St.mk [(0, V.one (X.d (D.int
  iK x0))), (1, V.one (X.d (D.list 8 r1))), (5, V.one (X.d (D.int iK x2))), (6, V.one (X.d (D.int iK x3)))] [] [] 0 0 0 []) (kLoop (loopK (Γ false) shp n1) [0, 1,
  5, 6] lb30_0 (kBlk 0 (kSeq (some [0, 5]) (fun s K => Jn (Γ false) shp n2 j30_2 s K) (finK (Γ true) rc false (shp 30) (SFunc.results sf30) 0))))
noncomputable def q30_2 (Γ : Bool → SemL) (n1 : Nat) (x0 x1 : Int) : Option Out := Jn (Γ false) shp n1 j30_2 (St.mk [(0, V.one (X.d (D.int iK x0))), (5, V.one (X.d (D.int
  iK x1)))] [] [] 0 0 0 []) (finK (Γ true) rc false (shp 30) (SFunc.results sf30) 0)
noncomputable def q31_0 (Γ : Bool → SemL) (n1 : Nat) (n2 : Nat) (x0 x1 x2 : Int) : Option Out := Jn (Γ false) shp n1 j31_0 (St.mk [(0, V.one (X.d (D.int iK x0))), (1,
  V.one (X.nilL 2)), (5, V.one (X.d (D.int iK x1))), (6, V.one (X.d (D.int iK x2)))] [] [] 0 0 0 []) (kLoop (loopK (Γ false) shp n1) [0, 1, 5, 6] lb31_0 (kBlk 0 (kSeq (some
  [0, 5]) (fun s K => Jn (Γ false) shp n2 j31_2 s K) (finK (Γ true) rc false (shp 31) (SFunc.results sf31) 0))))
noncomputable def q31_2 (Γ : Bool → SemL) (n1 : Nat) (x0 x1 : Int) : Option Out := Jn (Γ false) shp n1 j31_2 (St.mk [(0, V.one (X.d (D.int iK x0))), (5, V.one (X.d (D.int
  iK x1)))] [] [] 0 0 0 []) (finK (Γ true) rc false (shp 31) (SFunc.results sf31) 0)
noncomputable def q14_5_v1 (Γ : Bool → SemL) (n1 : Nat) (n2 : Nat) (x0 : Int) (r1 r2 : List (List D)) (x3 : Int) (r4 r5 : List (List D)) (x6 x7 : Int) (s8 : ByteArray) (r9 r10 r11 : List (List D)) (x12 x13 : Int) : Option Out := Jn (Γ false) shp n1 j14_5 (St.mk [(0, V.one (X.d (D.int
  iK x0))), (3, V.one (X.ptr 0 0)), (5, V.one (X.own 0 27 8 r1)), (6, V.one (X.own 1 55 2 r2)), (8, V.one (X.d (D.int iK x3)))] [(0, Blk.mk [Lf.lst 5, Lf.lst 14, Lf.int
  iK, Lf.int iK, Lf.str, Lf.lst 1, Lf.lst 1, Lf.lst 8, Lf.int iK, Lf.int iK] [X.d (D.list 5 r4), X.d (D.list 14 r5), X.d (D.int iK x6), X.d (D.int
  iK x7), X.d (D.str s8), X.d (D.list 1 r9), X.d (D.list 1 r10), X.d (D.list 8 r11), X.d (D.int iK x12), X.d (D.int iK x13)])] [0, 1] 1 2 0 []) (kBlk 3 (kSeq (some
  [0, 3, 5, 6, 8]) (fun s K => Jn (Γ false) shp n1 j14_8 s K) (kLoop (loopK (Γ false) shp n1) [0, 3, 5, 6, 8] lb14_1 (kBlk 2 (kSeq (some [0, 5, 6]) (fun s K => Jn (Γ false) shp n2 j14_9 s K)
  (finK (Γ true) rc false (shp 14) (SFunc.results sf14) 0))))))
noncomputable def e31_v1 (Γ : Bool → SemL) (n1 : Nat) (x0 : Int) (r1 : List (List D)) : Option Out := runF Γ shp rc false (shp 31) sf31 n1 [V.one (X.d (D.int iK x0)), V.one (X.d
  (D.list 2 r1))] []
noncomputable def q14_7 (Γ : Bool → SemL) (n1 : Nat) (n2 : Nat) (n3 : Nat) (x0 : Int) (r1 r2 : List (List D)) (x3 x4 : Int) (r5 r6 : List (List D))
  (x7 x8 : Int) (s9 : ByteArray) (r10 r11 r12 : List (List D)) (x13 x14 : Int) : Option Out := Jn (Γ false) shp n1 j14_7 (St.mk [(0, V.one
  (X.d (D.int iK x0))), (3, V.one (X.ptr 0 0)), (5, V.one (X.own 0 27 8 r1)), (6, V.one (X.own 1 55 2 r2)), (8, V.one (X.d (D.int iK x3))), (9, V.one (X.d (D.int iK
  x4)))] [(0, Blk.mk [Lf.lst 5, Lf.lst 14, Lf.int iK, Lf.int iK, Lf.str, Lf.lst 1, Lf.lst 1, Lf.lst 8, Lf.int iK, Lf.int iK] [X.d (D.list 5 r5), X.d
  (D.list 14 r6), X.d (D.int iK x7), X.d (D.int iK x8), X.d (D.str s9), X.d (D.list 1 r10), X.d (D.list 1 r11), X.d (D.list 8 r12), X.d (D.int iK x13), X.d (D.int
  iK x14)])] [0, 1] 1 2 0 []) (kLoop (loopK (Γ false) shp n1) [0, 3, 5, 6, 8, 9] lb14_2 (kBlk 4 (kBlk 3 (kSeq (some [0, 3, 5, 6, 8]) (fun s K => Jn (Γ false) shp n2 j14_8 s K) (kLoop
  (loopK (Γ false) shp n2) [0, 3, 5, 6, 8] lb14_1 (kBlk 2 (kSeq (some [0, 5, 6]) (fun s K => Jn (Γ false) shp n3 j14_9 s K) (finK (Γ true) rc false (shp 14) (SFunc.results sf14) 0))))))))
noncomputable def e69 (Γ : Bool → SemL) (n1 : Nat) (x0 x1 : Int) (s2 : ByteArray) (r3 r4 r5 : List (List D)) (x6 x7 x8 x9 : Int) : Option Out := runF Γ shp rc false (shp 69) sf69 n1 [V.agg [X.d (D.int iK x0), X.d (D.int iK x1), X.d (D.str s2), X.d (D.list 1 r3), X.d (D.list 1 r4), X.d (D.list 8
  r5), X.d (D.int iK x6), X.d (D.int iK x7)], V.one (X.d (D.int iK x8)), V.one (X.d (D.int iK x9))] []
noncomputable def q30_1 (Γ : Bool → SemL) (n1 : Nat) (n2 : Nat) (x0 : Int) (r1 : List (List D)) (x2 x3 : Int) : Option Out := Jn (Γ false) shp n1 j30_1 (St.mk [(0, V.one (X.d (D.int
  iK x0))), (1, V.one (X.d (D.list 8 r1))), (5, V.one (X.d (D.int iK x2))), (6, V.one (X.d (D.int iK x3)))] [] [] 0 0 0 []) (kLoop (loopK (Γ false) shp n1) [0, 1,
  5, 6] lb30_0 (kBlk 0 (kSeq (some [0, 5]) (fun s K => Jn (Γ false) shp n2 j30_2 s K) (finK (Γ true) rc false (shp 30) (SFunc.results sf30) 0))))
noncomputable def l31_0_v1 (n0 : Nat) (Γ : Bool → SemL) (n2 : Nat) (x0 : Int) (r1 : List (List D)) (x2 x3 : Int) : Option Out := loopK (Γ false) shp n0 [0, 1, 5, 6] lb31_0 (St.mk [(0,
  V.one (X.d (D.int iK x0))), (1, V.one (X.d (D.list 2 r1))), (5, V.one (X.d (D.int iK x2))), (6, V.one (X.d (D.int iK x3)))] [] [] 0 0 0 []) (kBlk 0 (kSeq (some
  [0, 5]) (fun s K => Jn (Γ false) shp n2 j31_2 s K) (finK (Γ true) rc false (shp 31) (SFunc.results sf31) 0)))
noncomputable def l69_0 (n0 : Nat) (Γ : Bool → SemL) (n2 : Nat) (x0 x1 x2 x3 x4 : Int) (s5 : ByteArray) (r6 r7 r8 : List (List D)) (x9 x10 : Int) : Option Out := loopK (Γ false) shp n0 [1, 2, 3, 7] lb69_0 (St.mk [(1, V.one (X.d (D.int iK x0))), (2, V.one (X.d (D.int iK x1))), (3,
  V.one (X.ptr 0 0)), (7, V.one (X.d (D.int iK x2)))] [(0, Blk.mk [Lf.int iK, Lf.int iK, Lf.str, Lf.lst 1, Lf.lst 1, Lf.lst 8, Lf.int iK, Lf.int
  iK] [X.d (D.int iK x3), X.d (D.int iK x4), X.d (D.str s5), X.d (D.list 1 r6), X.d (D.list 1 r7), X.d (D.list 8 r8), X.d (D.int iK x9), X.d (D.int
  iK x10)])] [] 1 0 0 []) (kBlk 0 (kSeq (some [1]) (fun s K => Jn (Γ false) shp n2 j69_2 s K) (finK (Γ true) rc false (shp 69) (SFunc.results sf69) 0)))
noncomputable def q31_0_v1 (Γ : Bool → SemL) (n1 : Nat) (n2 : Nat) (x0 : Int) (r1 : List (List D)) (x2 x3 : Int) : Option Out := Jn (Γ false) shp n1 j31_0 (St.mk [(0, V.one (X.d
  (D.int iK x0))), (1, V.one (X.d (D.list 2 r1))), (5, V.one (X.d (D.int iK x2))), (6, V.one (X.d (D.int iK x3)))] [] [] 0 0 0 []) (kLoop (loopK (Γ false) shp n1)
  [0, 1, 5, 6] lb31_0 (kBlk 0 (kSeq (some [0, 5]) (fun s K => Jn (Γ false) shp n2 j31_2 s K) (finK (Γ true) rc false (shp 31) (SFunc.results sf31) 0))))
noncomputable def q69_0 (Γ : Bool → SemL) (n1 : Nat) (n2 : Nat) (x0 x1 x2 x3 x4 : Int) (s5 : ByteArray) (r6 r7 r8 : List (List D)) (x9 x10 : Int) : Option Out := Jn (Γ false) shp n1 j69_0 (St.mk [(1, V.one (X.d (D.int iK x0))), (2, V.one (X.d (D.int iK x1))), (3, V.one (X.ptr 0 0)),
  (7, V.one (X.d (D.int iK x2)))] [(0, Blk.mk [Lf.int iK, Lf.int iK, Lf.str, Lf.lst 1, Lf.lst 1, Lf.lst 8, Lf.int iK, Lf.int iK] [X.d (D.int
  iK x3), X.d (D.int iK x4), X.d (D.str s5), X.d (D.list 1 r6), X.d (D.list 1 r7), X.d (D.list 8 r8), X.d (D.int iK x9), X.d (D.int iK x10)])] [] 1 0 0 [])
  (kLoop (loopK (Γ false) shp n1) [1, 2, 3, 7] lb69_0 (kBlk 0 (kSeq (some [1]) (fun s K => Jn (Γ false) shp n2 j69_2 s K) (finK (Γ true) rc false (shp 69) (SFunc.results sf69) 0))))
noncomputable def q69_2 (Γ : Bool → SemL) (n1 : Nat) (x0 : Int) : Option Out := Jn (Γ false) shp n1 j69_2 (St.mk [(1, V.one (X.d (D.int iK x0)))] [] [] 0 0 0 []) (finK (Γ true) rc
  false (shp 69) (SFunc.results sf69) 0)
noncomputable def e70_v1 (Γ : Bool → SemL) (n1 : Nat) (x0 : Int) (r1 : List (List D)) (x2 x3 : Int) : Option Out := runF Γ shp rc false (shp 70) sf70 n1 [V.agg [X.d (D.int iK
  x0), X.d (D.list 2 r1)], V.one (X.d (D.int iK x2)), V.one (X.d (D.int iK x3))] []
noncomputable def q31_1_v1 (Γ : Bool → SemL) (n1 : Nat) (n2 : Nat) (x0 : Int) (r1 : List (List D)) (x2 x3 : Int) : Option Out := Jn (Γ false) shp n1 j31_1 (St.mk [(0, V.one (X.d
  (D.int iK x0))), (1, V.one (X.d (D.list 2 r1))), (5, V.one (X.d (D.int iK x2))), (6, V.one (X.d (D.int iK x3)))] [] [] 0 0 0 []) (kLoop (loopK (Γ false) shp n1)
  [0, 1, 5, 6] lb31_0 (kBlk 0 (kSeq (some [0, 5]) (fun s K => Jn (Γ false) shp n2 j31_2 s K) (finK (Γ true) rc false (shp 31) (SFunc.results sf31) 0))))
noncomputable def q69_1 (Γ : Bool → SemL) (n1 : Nat) (n2 : Nat) (x0 x1 x2 x3 x4 : Int) (s5 : ByteArray) (r6 r7 r8 : List (List D)) (x9 x10 : Int) : Option Out := Jn (Γ false) shp n1 j69_1 (St.mk [(1, V.one (X.d (D.int iK x0))), (2, V.one (X.d (D.int iK x1))), (3, V.one (X.ptr 0 0)),
  (7, V.one (X.d (D.int iK x2)))] [(0, Blk.mk [Lf.int iK, Lf.int iK, Lf.str, Lf.lst 1, Lf.lst 1, Lf.lst 8, Lf.int iK, Lf.int iK] [X.d (D.int
  iK x3), X.d (D.int iK x4), X.d (D.str s5), X.d (D.list 1 r6), X.d (D.list 1 r7), X.d (D.list 8 r8), X.d (D.int iK x9), X.d (D.int iK x10)])] [] 1 0 0 [])
  (kLoop (loopK (Γ false) shp n1) [1, 2, 3, 7] lb69_0 (kBlk 0 (kSeq (some [1]) (fun s K => Jn (Γ false) shp n2 j69_2 s K) (finK (Γ true) rc false (shp 69) (SFunc.results sf69) 0))))
noncomputable def l70_0_v1 (n0 : Nat) (Γ : Bool → SemL) (n2 : Nat) (x0 x1 x2 x3 : Int) (r4 : List (List D)) : Option Out := loopK (Γ false) shp n0 [1, 2, 3, 7] lb70_0
  (St.mk [(1, V.one (X.d (D.int iK x0))), (2, V.one (X.d (D.int iK x1))), (3, V.one (X.ptr 0 0)), (7, V.one (X.d (D.int iK x2)))] [(0, Blk.mk [Lf.int iK,
  Lf.lst 2] [X.d (D.int iK x3), X.d (D.list 2 r4)])] [] 1 0 0 []) (kBlk 0 (kSeq (some [1]) (fun s K => Jn (Γ false) shp n2 j70_2 s K) (finK (Γ true) rc false (shp 70) (SFunc.results
  sf70) 0)))
noncomputable def q70_0 (Γ : Bool → SemL) (n1 : Nat) (n2 : Nat) (x0 x1 x2 x3 : Int) (r4 : List (List D)) : Option Out := Jn (Γ false) shp n1 j70_0 (St.mk [(1, V.one
  (X.d (D.int iK x0))), (2, V.one (X.d (D.int iK x1))), (3, V.one (X.ptr 0 0)), (7, V.one (X.d (D.int iK x2)))] [(0, Blk.mk [Lf.int iK, Lf.lst 2] [X.d
  (D.int iK x3), X.d (D.list 2 r4)])] [] 1 0 0 []) (kLoop (loopK (Γ false) shp n1) [1, 2, 3, 7] lb70_0 (kBlk 0 (kSeq (some [1]) (fun s K => Jn (Γ false) shp n2 j70_2 s K) (finK (Γ
  true) rc false (shp 70) (SFunc.results sf70) 0))))
noncomputable def q70_2 (Γ : Bool → SemL) (n1 : Nat) (x0 : Int) : Option Out := Jn (Γ false) shp n1 j70_2 (St.mk [(1, V.one (X.d (D.int iK x0)))] [] [] 0 0 0 []) (finK (Γ true) rc
  false (shp 70) (SFunc.results sf70) 0)
noncomputable def q70_1 (Γ : Bool → SemL) (n1 : Nat) (n2 : Nat) (x0 x1 x2 x3 : Int) (r4 : List (List D)) : Option Out := Jn (Γ false) shp n1 j70_1 (St.mk [(1, V.one
  (X.d (D.int iK x0))), (2, V.one (X.d (D.int iK x1))), (3, V.one (X.ptr 0 0)), (7, V.one (X.d (D.int iK x2)))] [(0, Blk.mk [Lf.int iK, Lf.lst 2] [X.d
  (D.int iK x3), X.d (D.list 2 r4)])] [] 1 0 0 []) (kLoop (loopK (Γ false) shp n1) [1, 2, 3, 7] lb70_0 (kBlk 0 (kSeq (some [1]) (fun s K => Jn (Γ false) shp n2 j70_2 s K) (finK (Γ
  true) rc false (shp 70) (SFunc.results sf70) 0))))
theorem e4_eq (Γ : Bool → SemL) (n1 : Nat) (r0 r1 : List (List D)) (x2 x3 : Int) (s4 : ByteArray) (r5 r6 r7 : List (List D)) (x8 x9 : Int) (r10 r11 : List (List D)) (x12 x13 : Int) (s14 : ByteArray) (r15 r16 r17 : List (List D)) (x18 x19 : Int) : e4 Γ n1 r0 r1 x2 x3 s4 r5 r6 r7 x8 x9 r10 r11 x12 x13 s14 r15 r16 r17 x18 x19 = r_oB (Γ false 14 [V.one (X.d (D.int iK 2000)), V.agg [X.d (D.list 5 r0), X.d (D.list 14 r1),
  X.d (D.int iK x2), X.d (D.int iK x3), X.d (D.str s4), X.d (D.list 1 r5), X.d (D.list 1 r6), X.d (D.list 8 r7), X.d (D.int iK x8), X.d (D.int iK x9)]] [])
  (fun c0_ => bif !c0_ then r_oB (Γ false 10 [] []) (fun c2_ => some (Out.mk true (V.one (X.d (D.bool c2_))) D.junk [] 0)) fun d3_ => some (Out.mk false V.junk d3_ [] 0) else r_oB (Γ false 14
  [V.one (X.d (D.int iK 2000)), V.agg [X.d (D.list 5 r10), X.d (D.list 14 r11), X.d (D.int iK x12), X.d (D.int iK x13), X.d (D.str s14), X.d (D.list 1 r15), X.d
  (D.list 1 r16), X.d (D.list 8 r17), X.d (D.int iK x18), X.d (D.int iK x19)]] []) (fun c4_ => bif !c4_ then r_oB (Γ false 10 [] []) (fun c6_ => some (Out.mk true (V.one
  (X.d (D.bool c6_))) D.junk [] 0)) fun d7_ => some (Out.mk false V.junk d7_ [] 0) else q4_0 Γ n1 r0 r1 x2 x3 s4 r5 r6 r7 x8 x9 r10 r11 x12 x13 s14 r15 r16 r17 x18 x19) fun d5_ => some
  (Out.mk false V.junk d5_ [] 0)) fun d1_ => some (Out.mk false V.junk d1_ [] 0) := (run_step ..).trans (by kernel_rfl)
theorem e14_eq (Γ : Bool → SemL) (n1 : Nat) (x0 : Int) (r1 r2 : List (List D)) (x3 x4 : Int) (s5 : ByteArray) (r6 r7 r8 : List (List D)) (x9 x10 : Int) : e14 Γ n1 x0 r1 r2 x3 x4 s5 r6 r7 r8 x9 x10 = bif decide (Int.ofNat (List.length r1) > 100) then some (Out.mk true (V.one (X.d (D.bool false))) D.junk []
  0) else bif decide (Int.ofNat (List.length r2) > 100) then some (Out.mk true (V.one (X.d (D.bool false))) D.junk [] 0) else q14_0 Γ n1 x0 r1 r2 x3 x4 s5 r6 r7 r8 x9 x10 := (run_step
  ..).trans (by kernel_rfl)
theorem q4_0_eq (Γ : Bool → SemL) (n1 : Nat) (r0 r1 : List (List D)) (x2 x3 : Int) (s4 : ByteArray) (r5 r6 r7 : List (List D))
  (x8 x9 : Int) (r10 r11 : List (List D)) (x12 x13 : Int) (s14 : ByteArray) (r15 r16 r17 : List (List D)) (x18 x19 : Int) : q4_0 Γ n1 r0 r1 x2 x3 s4 r5 r6 r7 x8 x9 r10 r11 x12 x13 s14 r15 r16 r17 x18 x19 = r_oB (Γ false 15 [V.agg [X.d (D.int iK x2), X.d (D.int iK x3), X.d (D.str
  s4), X.d (D.list 1 r5), X.d (D.list 1 r6), X.d (D.list 8 r7), X.d (D.int iK x8), X.d (D.int iK x9)], V.agg [X.d (D.int iK x12), X.d (D.int iK x13), X.d
  (D.str s14), X.d (D.list 1 r15), X.d (D.list 1 r16), X.d (D.list 8 r17), X.d (D.int iK x18), X.d (D.int iK x19)]] []) (fun c0_ => r_oB (Γ false 16 [V.agg [X.d (D.int
  iK x2), X.d (D.int iK x3), X.d (D.str s4), X.d (D.list 1 r5), X.d (D.list 1 r6), X.d (D.list 8 r7), X.d (D.int iK x8), X.d (D.int iK x9)], V.agg [X.d
  (D.int iK x12), X.d (D.int iK x13), X.d (D.str s14), X.d (D.list 1 r15), X.d (D.list 1 r16), X.d (D.list 8 r17), X.d (D.int iK x18), X.d (D.int iK x19)]]
  []) (fun c2_ => bif c0_ == c2_ then r_oB (Γ false 17 [V.agg [X.d (D.list 5 r0), X.d (D.list 14 r1), X.d (D.int iK x2), X.d (D.int iK x3), X.d (D.str s4), X.d (D.list 1
  r5), X.d (D.list 1 r6), X.d (D.list 8 r7), X.d (D.int iK x8), X.d (D.int iK x9)], V.agg [X.d (D.list 5 r10), X.d (D.list 14 r11), X.d (D.int iK x12), X.d (D.int
  iK x13), X.d (D.str s14), X.d (D.list 1 r15), X.d (D.list 1 r16), X.d (D.list 8 r17), X.d (D.int iK x18), X.d (D.int iK x19)]] []) (fun c4_ => r_oB (Γ false 18
  [V.agg [X.d (D.list 5 r0), X.d (D.list 14 r1), X.d (D.int iK x2), X.d (D.int iK x3), X.d (D.str s4), X.d (D.list 1 r5), X.d (D.list 1 r6), X.d (D.list 8 r7), X.d (D.int
  iK x8), X.d (D.int iK x9)], V.agg [X.d (D.list 5 r10), X.d (D.list 14 r11), X.d (D.int iK x12), X.d (D.int iK x13), X.d (D.str s14), X.d (D.list 1 r15),
  X.d (D.list 1 r16), X.d (D.list 8 r17), X.d (D.int iK x18), X.d (D.int iK x19)]] []) (fun c6_ => bif c4_ == c6_ then r_oB (Γ false 17 [V.agg [X.d (D.list 5 r0), X.d
  (D.list 14 r1), X.d (D.int iK x2), X.d (D.int iK x3), X.d (D.str s4), X.d (D.list 1 r5), X.d (D.list 1 r6), X.d (D.list 8 r7), X.d (D.int iK x8), X.d (D.int
  iK x9)], V.agg [X.d (D.list 5 r0), X.d (D.list 14 r1), X.d (D.int iK x2), X.d (D.int iK x3), X.d (D.str s4), X.d (D.list 1 r5), X.d (D.list 1 r6), X.d (D.list 8
  r7), X.d (D.int iK x8), X.d (D.int iK x9)]] []) (fun c8_ => bif c8_ then r_oB (Γ false 10 [] []) (fun c10_ => some (Out.mk true (V.one (X.d (D.bool c10_))) D.junk [] 0))
  fun d11_ => some (Out.mk false V.junk d11_ [] 0) else some (Out.mk true (V.one (X.d (D.bool false))) D.junk [] 0)) fun d9_ => some (Out.mk false V.junk d9_ [] 0) else some (Out.mk true
  (V.one (X.d (D.bool false))) D.junk [] 0)) fun d7_ => some (Out.mk false V.junk d7_ [] 0)) fun d5_ => some (Out.mk false V.junk d5_ [] 0) else some (Out.mk true (V.one (X.d (D.bool false)))
  D.junk [] 0)) fun d3_ => some (Out.mk false V.junk d3_ [] 0)) fun d1_ => some (Out.mk false V.junk d1_ [] 0) := (Jn_step ..).trans (by kernel_rfl)
theorem q14_0_eq (Γ : Bool → SemL) (n1 : Nat) (x0 : Int) (r1 r2 : List (List D)) (x3 x4 : Int) (s5 : ByteArray) (r6 r7 r8 : List (List D)) (x9 x10 : Int) : q14_0 Γ n1 x0 r1 r2 x3 x4 s5 r6 r7 r8 x9 x10 = l14_0 n1 Γ n1 x0 [[D.int iK x3, D.int iK x4, D.str s5, D.list 1 r6, D.list 1 r7, D.list 8
  r8, D.int iK x9, D.int iK x10]] 0 r1 r2 x3 x4 s5 r6 r7 r8 x9 x10 := (Jn_step ..).trans (by kernel_rfl)
theorem l14_0_eq (n0 : Nat) (Γ : Bool → SemL) (n2 : Nat) (x0 : Int) (r1 : List (List D)) (x2 : Int) (r3 r4 : List (List D)) (x5 x6 : Int) (s7 : ByteArray) (r8 r9 r10 : List (List D)) (x11 x12 : Int) : l14_0 (n0 + 1) Γ n2 x0 r1 x2 r3 r4 x5 x6 s7 r8 r9 r10 x11 x12 = bif decide (x2 < Int.ofNat (List.length r3))
  then q14_1 Γ n0 n2 x0 r1 x2 r3 r4 x5 x6 s7 r8 r9 r10 x11 x12 else q14_3 Γ n2 x0 r1 r3 r4 x5 x6 s7 r8 r9 r10 x11 x12 := (loop_step ..).trans (by kernel_rfl)
theorem q14_1_eq (Γ : Bool → SemL) (n1 : Nat) (n2 : Nat) (x0 : Int) (r1 : List (List D)) (x2 : Int) (r3 r4 : List (List D)) (x5 x6 : Int) (s7 : ByteArray) (r8 r9 r10 : List (List D)) (x11 x12 : Int) : q14_1 Γ n1 n2 x0 r1 x2 r3 r4 x5 x6 s7 r8 r9 r10 x11 x12 = bif decide (0 ≤ x2) && decide (x2 < Int.ofNat
  (List.length r3)) then q14_2 Γ n1 n2 x0 r1 [[List.getD (List.getD r3 (Int.toNat x2) []) 1 D.junk, List.getD (List.getD r3 (Int.toNat x2) []) 2 D.junk]] x2 r3 r4 x5 x6 s7 r8 r9 r10 x11 x12
  else none := (Jn_step ..).trans (by kernel_rfl)
theorem q14_3_eq (Γ : Bool → SemL) (n1 : Nat) (x0 : Int) (r1 r2 r3 : List (List D)) (x4 x5 : Int) (s6 : ByteArray) (r7 r8 r9 : List (List D)) (x10 x11 : Int) : q14_3 Γ n1 x0 r1 r2 r3 x4 x5 s6 r7 r8 r9 x10 x11 = l14_1 n1 Γ n1 x0 r1 0 r2 r3 x4 x5 s6 r7 r8 r9 x10 x11 := (Jn_step ..).trans (by
  kernel_rfl)
theorem q14_2_eq (Γ : Bool → SemL) (n1 : Nat) (n2 : Nat) (x0 : Int) (r1 r2 : List (List D)) (x3 : Int) (r4 r5 : List (List D)) (x6 x7 : Int) (s8 :
  ByteArray) (r9 r10 r11 : List (List D)) (x12 x13 : Int) : q14_2 Γ n1 n2 x0 r1 r2 x3 r4 r5 x6 x7 s8 r9 r10 r11 x12 x13 = l14_0_v1 n1 Γ n2 x0 r1 r2
  (IntKind.wrap iK (x3 + 1)) r4 r5 x6 x7 s8 r9 r10 r11 x12 x13 := (Jn_step ..).trans (by kernel_rfl)
theorem l14_1_eq (n0 : Nat) (Γ : Bool → SemL) (n2 : Nat) (x0 : Int) (r1 : List (List D)) (x2 : Int) (r3 r4 : List (List D)) (x5 x6 : Int) (s7 : ByteArray) (r8 r9 r10 : List (List D)) (x11 x12 : Int) : l14_1 (n0 + 1) Γ n2 x0 r1 x2 r3 r4 x5 x6 s7 r8 r9 r10 x11 x12 = bif decide (x2 < Int.ofNat (List.length r4))
  then q14_4 Γ n0 n2 x0 r1 x2 r3 r4 x5 x6 s7 r8 r9 r10 x11 x12 else q14_9 Γ n2 x0 r1 := (loop_step ..).trans (by kernel_rfl)
theorem l14_0_v1_eq (n0 : Nat) (Γ : Bool → SemL) (n2 : Nat) (x0 : Int) (r1 r2 : List (List D)) (x3 : Int) (r4 r5 : List (List D)) (x6 x7 : Int) (s8
  : ByteArray) (r9 r10 r11 : List (List D)) (x12 x13 : Int) : l14_0_v1 (n0 + 1) Γ n2 x0 r1 r2 x3 r4 r5 x6 x7 s8 r9 r10 r11 x12 x13 = bif decide (x3
  < Int.ofNat (List.length r4)) then q14_1_v1 Γ n0 n2 x0 r1 r2 x3 r4 r5 x6 x7 s8 r9 r10 r11 x12 x13 else q14_3_v1 Γ n2 x0 r1 r2 r4 r5 x6 x7 s8 r9 r10 r11 x12 x13 := (loop_step ..).trans (by
  kernel_rfl)
theorem q14_4_eq (Γ : Bool → SemL) (n1 : Nat) (n2 : Nat) (x0 : Int) (r1 : List (List D)) (x2 : Int) (r3 r4 : List (List D)) (x5 x6 : Int) (s7 : ByteArray) (r8 r9 r10 : List (List D)) (x11 x12 : Int) : q14_4 Γ n1 n2 x0 r1 x2 r3 r4 x5 x6 s7 r8 r9 r10 x11 x12 = bif decide (0 ≤ x2) && decide (x2 < Int.ofNat
  (List.length r4)) then bif D.isL (List.getD (List.getD r4 (Int.toNat x2) []) 1 D.junk) then bif decide (Int.ofNat (List.length (D.rows (List.getD (List.getD r4 (Int.toNat x2) []) 1
  D.junk))) > 100) then some (Out.mk true (V.one (X.d (D.bool false))) D.junk [] 0) else q14_5 Γ n1 n2 x0 r1 x2 r3 r4 x5 x6 s7 r8 r9 r10 x11 x12 else none else none := (Jn_step ..).trans (by
  kernel_rfl)
theorem q14_9_eq (Γ : Bool → SemL) (n1 : Nat) (x0 : Int) (r1 : List (List D)) : q14_9 Γ n1 x0 r1 = r_oB (Γ false 30 [V.one (X.d (D.int iK x0)), V.one (X.d (D.list 8 r1))] []) (fun
  c0_ => bif c0_ then r_oB (Γ false 31 [V.one (X.d (D.int iK x0)), V.one (X.nilL 2)] []) (fun c2_ => some (Out.mk true (V.one (X.d (D.bool c2_))) D.junk [] 0)) fun d3_ => some
  (Out.mk false V.junk d3_ [] 0) else some (Out.mk true (V.one (X.d (D.bool false))) D.junk [] 0)) fun d1_ => some (Out.mk false V.junk d1_ [] 0) := (Jn_step ..).trans (by kernel_rfl)
theorem q14_1_v1_eq (Γ : Bool → SemL) (n1 : Nat) (n2 : Nat) (x0 : Int) (r1 r2 : List (List D)) (x3 : Int) (r4 r5 : List (List D)) (x6 x7 : Int) (s8
  : ByteArray) (r9 r10 r11 : List (List D)) (x12 x13 : Int) : q14_1_v1 Γ n1 n2 x0 r1 r2 x3 r4 r5 x6 x7 s8 r9 r10 r11 x12 x13 = bif decide (0 ≤ x3)
  && decide (x3 < Int.ofNat (List.length r4)) then bif true && true && true && Nat.ble ((List.length r2 + List.length [[List.getD (List.getD r4 (Int.toNat x3) []) 1 D.junk, List.getD
  (List.getD r4 (Int.toNat x3) []) 2 D.junk]]) * 33) 140737488355328 then q14_2 Γ n1 n2 x0 r1 (r2 ++ [[List.getD (List.getD r4 (Int.toNat x3) []) 1 D.junk, List.getD (List.getD r4 (Int.toNat
  x3) []) 2 D.junk]]) x3 r4 r5 x6 x7 s8 r9 r10 r11 x12 x13 else none else none := (Jn_step ..).trans (by kernel_rfl)
theorem q14_3_v1_eq (Γ : Bool → SemL) (n1 : Nat) (x0 : Int) (r1 r2 r3 r4 : List (List D)) (x5 x6 : Int) (s7 : ByteArray) (r8 r9 r10 : List (List D)) (x11 x12 : Int) : q14_3_v1 Γ n1 x0 r1 r2 r3 r4 x5 x6 s7 r8 r9 r10 x11 x12 = l14_1_v1 n1 Γ n1 x0 r1 r2 0 r3 r4 x5 x6 s7 r8
  r9 r10 x11 x12 := (Jn_step ..).trans (by kernel_rfl)
theorem q14_5_eq (Γ : Bool → SemL) (n1 : Nat) (n2 : Nat) (x0 : Int) (r1 : List (List D)) (x2 : Int) (r3 r4 : List (List D)) (x5 x6 : Int) (s7 : ByteArray) (r8 r9 r10 : List (List D)) (x11 x12 : Int) : q14_5 Γ n1 n2 x0 r1 x2 r3 r4 x5 x6 s7 r8 r9 r10 x11 x12 = bif decide (0 ≤ x2) && decide (x2 < Int.ofNat
  (List.length r4)) then bif true && true && true && Nat.ble ((List.length r1 + List.length [[List.getD (List.getD r4 (Int.toNat x2) []) 4 D.junk, List.getD (List.getD r4 (Int.toNat x2) []) 5
  D.junk, List.getD (List.getD r4 (Int.toNat x2) []) 6 D.junk, List.getD (List.getD r4 (Int.toNat x2) []) 7 D.junk, List.getD (List.getD r4 (Int.toNat x2) []) 8 D.junk, List.getD (List.getD
  r4 (Int.toNat x2) []) 9 D.junk, List.getD (List.getD r4 (Int.toNat x2) []) 10 D.junk, List.getD (List.getD r4 (Int.toNat x2) []) 11 D.junk]]) * 121) 140737488355328 then bif decide (0 ≤ x2)
  && decide (x2 < Int.ofNat (List.length r4)) then l14_2 n1 Γ n1 n2 x0 (r1 ++ [[List.getD (List.getD r4 (Int.toNat x2) []) 4 D.junk, List.getD (List.getD r4 (Int.toNat x2) []) 5 D.junk,
  List.getD (List.getD r4 (Int.toNat x2) []) 6 D.junk, List.getD (List.getD r4 (Int.toNat x2) []) 7 D.junk, List.getD (List.getD r4 (Int.toNat x2) []) 8 D.junk, List.getD (List.getD r4
  (Int.toNat x2) []) 9 D.junk, List.getD (List.getD r4 (Int.toNat x2) []) 10 D.junk, List.getD (List.getD r4 (Int.toNat x2) []) 11 D.junk]]) [[List.getD (List.getD r4 (Int.toNat x2) []) 2
  D.junk, List.getD (List.getD r4 (Int.toNat x2) []) 3 D.junk]] x2 0 r3 r4 x5 x6 s7 r8 r9 r10 x11 x12 else none else none else none := (Jn_step ..).trans (by kernel_rfl)
theorem e30_eq (Γ : Bool → SemL) (n1 : Nat) (x0 : Int) (r1 : List (List D)) : e30 Γ n1 x0 r1 = l30_0 n1 Γ n1 x0 r1 0 0 := (run_step ..).trans (by kernel_rfl)
theorem e31_eq (Γ : Bool → SemL) (n1 : Nat) (x0 : Int) : e31 Γ n1 x0 = l31_0 n1 Γ n1 x0 0 0 := (run_step ..).trans (by kernel_rfl)
theorem l14_1_v1_eq (n0 : Nat) (Γ : Bool → SemL) (n2 : Nat) (x0 : Int) (r1 r2 : List (List D)) (x3 : Int) (r4 r5 : List (List D)) (x6 x7 : Int) (s8
  : ByteArray) (r9 r10 r11 : List (List D)) (x12 x13 : Int) : l14_1_v1 (n0 + 1) Γ n2 x0 r1 r2 x3 r4 r5 x6 x7 s8 r9 r10 r11 x12 x13 = bif decide (x3
  < Int.ofNat (List.length r5)) then q14_4_v1 Γ n0 n2 x0 r1 r2 x3 r4 r5 x6 x7 s8 r9 r10 r11 x12 x13 else q14_9_v1 Γ n2 x0 r1 r2 := (loop_step ..).trans (by kernel_rfl)
theorem l14_2_eq (n0 : Nat) (Γ : Bool → SemL) (n2 : Nat) (n3 : Nat) (x0 : Int) (r1 r2 : List (List D)) (x3 x4 : Int) (r5 r6 : List (List D)) (x7 x8 : Int) (s9 : ByteArray) (r10 r11 r12 : List (List D)) (x13 x14 : Int) : l14_2 (n0 + 1) Γ n2 n3 x0 r1 r2 x3 x4 r5 r6 x7 x8 s9 r10 r11 r12
  x13 x14 = bif decide (0 ≤ x3) && decide (x3 < Int.ofNat (List.length r6)) then bif D.isL (List.getD (List.getD r6 (Int.toNat x3) []) 1 D.junk) then bif decide (x4 < Int.ofNat (List.length
  (D.rows (List.getD (List.getD r6 (Int.toNat x3) []) 1 D.junk)))) then q14_6 Γ n0 n2 n3 x0 r1 r2 x3 x4 r5 r6 x7 x8 s9 r10 r11 r12 x13 x14 else q14_8 Γ n2 n3 x0 r1 r2 x3 r5 r6 x7 x8 s9 r10
  r11 r12 x13 x14 else none else none := (loop_step ..).trans (by kernel_rfl)
theorem l30_0_eq (n0 : Nat) (Γ : Bool → SemL) (n2 : Nat) (x0 : Int) (r1 : List (List D)) (x2 x3 : Int) : l30_0 (n0 + 1) Γ n2 x0 r1 x2 x3 = bif decide (x3 < Int.ofNat (List.length r1))
  then q30_0 Γ n0 n2 x0 r1 x2 x3 else q30_2 Γ n2 x0 x2 := (loop_step ..).trans (by kernel_rfl)
theorem l31_0_eq (n0 : Nat) (Γ : Bool → SemL) (n2 : Nat) (x0 x1 x2 : Int) : l31_0 (n0 + 1) Γ n2 x0 x1 x2 = bif decide (x2 < 0) then q31_0 Γ n0 n2 x0 x1 x2 else q31_2 Γ n2 x0
  x1 := (loop_step ..).trans (by kernel_rfl)
theorem q14_4_v1_eq (Γ : Bool → SemL) (n1 : Nat) (n2 : Nat) (x0 : Int) (r1 r2 : List (List D)) (x3 : Int) (r4 r5 : List (List D)) (x6 x7 : Int) (s8
  : ByteArray) (r9 r10 r11 : List (List D)) (x12 x13 : Int) : q14_4_v1 Γ n1 n2 x0 r1 r2 x3 r4 r5 x6 x7 s8 r9 r10 r11 x12 x13 = bif decide (0 ≤ x3)
  && decide (x3 < Int.ofNat (List.length r5)) then bif D.isL (List.getD (List.getD r5 (Int.toNat x3) []) 1 D.junk) then bif decide (Int.ofNat (List.length (D.rows (List.getD (List.getD r5
  (Int.toNat x3) []) 1 D.junk))) > 100) then some (Out.mk true (V.one (X.d (D.bool false))) D.junk [] 0) else q14_5_v1 Γ n1 n2 x0 r1 r2 x3 r4 r5 x6 x7 s8 r9 r10 r11 x12 x13 else none else
  none := (Jn_step ..).trans (by kernel_rfl)
theorem q14_9_v1_eq (Γ : Bool → SemL) (n1 : Nat) (x0 : Int) (r1 r2 : List (List D)) : q14_9_v1 Γ n1 x0 r1 r2 = r_oB (Γ false 30 [V.one (X.d (D.int iK x0)), V.one
  (X.d (D.list 8 r1))] []) (fun c0_ => bif c0_ then r_oB (Γ false 31 [V.one (X.d (D.int iK x0)), V.one (X.d (D.list 2 r2))] []) (fun c2_ => some (Out.mk true (V.one (X.d (D.bool
  c2_))) D.junk [] 0)) fun d3_ => some (Out.mk false V.junk d3_ [] 0) else some (Out.mk true (V.one (X.d (D.bool false))) D.junk [] 0)) fun d1_ => some (Out.mk false V.junk d1_ [] 0) :=
  (Jn_step ..).trans (by kernel_rfl)
theorem q14_6_eq (Γ : Bool → SemL) (n1 : Nat) (n2 : Nat) (n3 : Nat) (x0 : Int) (r1 r2 : List (List D)) (x3 x4 : Int) (r5 r6 : List (List D)) (x7 x8 : Int) (s9 : ByteArray) (r10 r11 r12 : List (List D)) (x13 x14 : Int) : q14_6 Γ n1 n2 n3 x0 r1 r2 x3 x4 r5 r6 x7 x8 s9 r10 r11 r12 x13
  x14 = bif decide (0 ≤ x3) && decide (x3 < Int.ofNat (List.length r6)) then bif D.isList 5 (List.getD (List.getD r6 (Int.toNat x3) []) 1 D.junk) then bif decide (0 ≤ x4) && decide (x4 <
  Int.ofNat (List.length (D.rows (List.getD (List.getD r6 (Int.toNat x3) []) 1 D.junk)))) then bif true && true && true && Nat.ble ((List.length r2 + List.length [[List.getD (List.getD
  (D.rows (List.getD (List.getD r6 (Int.toNat x3) []) 1 D.junk)) (Int.toNat x4) []) 1 D.junk, List.getD (List.getD (D.rows (List.getD (List.getD r6 (Int.toNat x3) []) 1 D.junk)) (Int.toNat
  x4) []) 2 D.junk]]) * 33) 140737488355328 then q14_7 Γ n1 n2 n3 x0 r1 (r2 ++ [[List.getD (List.getD (D.rows (List.getD (List.getD r6 (Int.toNat x3) []) 1 D.junk)) (Int.toNat x4) []) 1
  D.junk, List.getD (List.getD (D.rows (List.getD (List.getD r6 (Int.toNat x3) []) 1 D.junk)) (Int.toNat x4) []) 2 D.junk]]) x3 x4 r5 r6 x7 x8 s9 r10 r11 r12 x13 x14 else none else none else
  none else none := (Jn_step ..).trans (by kernel_rfl)
theorem q14_8_eq (Γ : Bool → SemL) (n1 : Nat) (n2 : Nat) (x0 : Int) (r1 r2 : List (List D)) (x3 : Int) (r4 r5 : List (List D)) (x6 x7 : Int) (s8 :
  ByteArray) (r9 r10 r11 : List (List D)) (x12 x13 : Int) : q14_8 Γ n1 n2 x0 r1 r2 x3 r4 r5 x6 x7 s8 r9 r10 r11 x12 x13 = l14_1_v1 n1 Γ n2 x0 r1 r2
  (IntKind.wrap iK (x3 + 1)) r4 r5 x6 x7 s8 r9 r10 r11 x12 x13 := (Jn_step ..).trans (by kernel_rfl)
theorem q30_0_eq (Γ : Bool → SemL) (n1 : Nat) (n2 : Nat) (x0 : Int) (r1 : List (List D)) (x2 x3 : Int) : q30_0 Γ n1 n2 x0 r1 x2 x3 = bif decide (0 ≤ x3) && decide (x3 < Int.ofNat
  (List.length r1)) then r_oI (Γ false 69 [V.agg [X.d (List.getD (List.getD r1 (Int.toNat x3) []) 0 D.junk), X.d (List.getD (List.getD r1 (Int.toNat x3) []) 1 D.junk), X.d (List.getD
  (List.getD r1 (Int.toNat x3) []) 2 D.junk), X.d (List.getD (List.getD r1 (Int.toNat x3) []) 3 D.junk), X.d (List.getD (List.getD r1 (Int.toNat x3) []) 4 D.junk), X.d (List.getD (List.getD
  r1 (Int.toNat x3) []) 5 D.junk), X.d (List.getD (List.getD r1 (Int.toNat x3) []) 6 D.junk), X.d (List.getD (List.getD r1 (Int.toNat x3) []) 7 D.junk)], V.one (X.d (D.int iK x2)),
  V.one (X.d (D.int iK x0))] []) (fun i0_ => q30_1 Γ n1 n2 x0 r1 i0_ x3) fun d1_ => some (Out.mk false V.junk d1_ [] 0) else none := (Jn_step ..).trans (by kernel_rfl)
theorem q30_2_eq (Γ : Bool → SemL) (n1 : Nat) (x0 x1 : Int) : q30_2 Γ n1 x0 x1 = some (Out.mk true (V.one (X.d (D.bool (decide (x1 ≤ x0))))) D.junk [] 0) := (Jn_step ..).trans (by
  kernel_rfl)
theorem q31_2_eq (Γ : Bool → SemL) (n1 : Nat) (x0 x1 : Int) : q31_2 Γ n1 x0 x1 = some (Out.mk true (V.one (X.d (D.bool (decide (x1 ≤ x0))))) D.junk [] 0) := (Jn_step ..).trans (by
  kernel_rfl)
theorem q14_5_v1_eq (Γ : Bool → SemL) (n1 : Nat) (n2 : Nat) (x0 : Int) (r1 r2 : List (List D)) (x3 : Int) (r4 r5 : List (List D)) (x6 x7 : Int) (s8
  : ByteArray) (r9 r10 r11 : List (List D)) (x12 x13 : Int) : q14_5_v1 Γ n1 n2 x0 r1 r2 x3 r4 r5 x6 x7 s8 r9 r10 r11 x12 x13 = bif decide (0 ≤ x3)
  && decide (x3 < Int.ofNat (List.length r5)) then bif true && true && true && Nat.ble ((List.length r1 + List.length [[List.getD (List.getD r5 (Int.toNat x3) []) 4 D.junk, List.getD
  (List.getD r5 (Int.toNat x3) []) 5 D.junk, List.getD (List.getD r5 (Int.toNat x3) []) 6 D.junk, List.getD (List.getD r5 (Int.toNat x3) []) 7 D.junk, List.getD (List.getD r5 (Int.toNat x3)
  []) 8 D.junk, List.getD (List.getD r5 (Int.toNat x3) []) 9 D.junk, List.getD (List.getD r5 (Int.toNat x3) []) 10 D.junk, List.getD (List.getD r5 (Int.toNat x3) []) 11 D.junk]]) * 121)
  140737488355328 then bif decide (0 ≤ x3) && decide (x3 < Int.ofNat (List.length r5)) then bif true && true && true && Nat.ble ((List.length r2 + List.length [[List.getD (List.getD r5
  (Int.toNat x3) []) 2 D.junk, List.getD (List.getD r5 (Int.toNat x3) []) 3 D.junk]]) * 33) 140737488355328 then l14_2 n1 Γ n1 n2 x0 (r1 ++ [[List.getD (List.getD r5 (Int.toNat x3) []) 4
  D.junk, List.getD (List.getD r5 (Int.toNat x3) []) 5 D.junk, List.getD (List.getD r5 (Int.toNat x3) []) 6 D.junk, List.getD (List.getD r5 (Int.toNat x3) []) 7 D.junk, List.getD (List.getD
  r5 (Int.toNat x3) []) 8 D.junk, List.getD (List.getD r5 (Int.toNat x3) []) 9 D.junk, List.getD (List.getD r5 (Int.toNat x3) []) 10 D.junk, List.getD (List.getD r5 (Int.toNat x3) []) 11
  D.junk]]) (r2 ++ [[List.getD (List.getD r5 (Int.toNat x3) []) 2 D.junk, List.getD (List.getD r5 (Int.toNat x3) []) 3 D.junk]]) x3 0 r4 r5 x6 x7 s8 r9 r10 r11 x12 x13 else none else none
  else none else none := (Jn_step ..).trans (by kernel_rfl)
theorem e31_v1_eq (Γ : Bool → SemL) (n1 : Nat) (x0 : Int) (r1 : List (List D)) : e31_v1 Γ n1 x0 r1 = l31_0_v1 n1 Γ n1 x0 r1 0 0 := (run_step ..).trans (by kernel_rfl)
theorem q14_7_eq (Γ : Bool → SemL) (n1 : Nat) (n2 : Nat) (n3 : Nat) (x0 : Int) (r1 r2 : List (List D)) (x3 x4 : Int) (r5 r6 : List (List D)) (x7 x8 : Int) (s9 : ByteArray) (r10 r11 r12 : List (List D)) (x13 x14 : Int) : q14_7 Γ n1 n2 n3 x0 r1 r2 x3 x4 r5 r6 x7 x8 s9 r10 r11 r12 x13
  x14 = l14_2 n1 Γ n2 n3 x0 r1 r2 x3 (IntKind.wrap iK (x4 + 1)) r5 r6 x7 x8 s9 r10 r11 r12 x13 x14 := (Jn_step ..).trans (by kernel_rfl)
theorem e69_eq (Γ : Bool → SemL) (n1 : Nat) (x0 x1 : Int) (s2 : ByteArray) (r3 r4 r5 : List (List D)) (x6 x7 x8 x9 : Int) :
  e69 Γ n1 x0 x1 s2 r3 r4 r5 x6 x7 x8 x9 = l69_0 n1 Γ n1 (IntKind.wrap iK (IntKind.wrap iK (IntKind.wrap iK (x8 + 1) + Int.ofNat (List.length r3)) + Int.ofNat
  (List.length r4))) x9 0 x0 x1 s2 r3 r4 r5 x6 x7 := (run_step ..).trans (by kernel_rfl)
theorem q30_1_eq (Γ : Bool → SemL) (n1 : Nat) (n2 : Nat) (x0 : Int) (r1 : List (List D)) (x2 x3 : Int) : q30_1 Γ n1 n2 x0 r1 x2 x3 = l30_0 n1 Γ n2 x0 r1 x2 (IntKind.wrap iK
  (x3 + 1)) := (Jn_step ..).trans (by kernel_rfl)
theorem l31_0_v1_eq (n0 : Nat) (Γ : Bool → SemL) (n2 : Nat) (x0 : Int) (r1 : List (List D)) (x2 x3 : Int) : l31_0_v1 (n0 + 1) Γ n2 x0 r1 x2 x3 = bif decide (x3 < Int.ofNat
  (List.length r1)) then q31_0_v1 Γ n0 n2 x0 r1 x2 x3 else q31_2 Γ n2 x0 x2 := (loop_step ..).trans (by kernel_rfl)
theorem l69_0_eq (n0 : Nat) (Γ : Bool → SemL) (n2 : Nat) (x0 x1 x2 x3 x4 : Int) (s5 : ByteArray) (r6 r7 r8 : List (List D))
  (x9 x10 : Int) : l69_0 (n0 + 1) Γ n2 x0 x1 x2 x3 x4 s5 r6 r7 r8 x9 x10 = bif decide (x2 < Int.ofNat (List.length r8)) then bif decide (x0 ≤ x1) then q69_0 Γ n0 n2 x0 x1 x2 x3 x4 s5
  r6 r7 r8 x9 x10 else q69_2 Γ n2 x0 else q69_2 Γ n2 x0 := (loop_step ..).trans (by kernel_rfl)
theorem q31_0_v1_eq (Γ : Bool → SemL) (n1 : Nat) (n2 : Nat) (x0 : Int) (r1 : List (List D)) (x2 x3 : Int) : q31_0_v1 Γ n1 n2 x0 r1 x2 x3 = bif decide (0 ≤ x3) && decide (x3 <
  Int.ofNat (List.length r1)) then r_oI (Γ false 70 [V.agg [X.d (List.getD (List.getD r1 (Int.toNat x3) []) 0 D.junk), X.d (List.getD (List.getD r1 (Int.toNat x3) []) 1 D.junk)], V.one (X.d
  (D.int iK x2)), V.one (X.d (D.int iK x0))] []) (fun i0_ => q31_1_v1 Γ n1 n2 x0 r1 i0_ x3) fun d1_ => some (Out.mk false V.junk d1_ [] 0) else none := (Jn_step ..).trans
  (by kernel_rfl)
theorem q69_0_eq (Γ : Bool → SemL) (n1 : Nat) (n2 : Nat) (x0 x1 x2 x3 x4 : Int) (s5 : ByteArray) (r6 r7 r8 : List (List D))
  (x9 x10 : Int) : q69_0 Γ n1 n2 x0 x1 x2 x3 x4 s5 r6 r7 r8 x9 x10 = bif decide (0 ≤ x2) && decide (x2 < Int.ofNat (List.length r8)) then r_oI (Γ false 69 [V.agg [X.d (List.getD
  (List.getD r8 (Int.toNat x2) []) 0 D.junk), X.d (List.getD (List.getD r8 (Int.toNat x2) []) 1 D.junk), X.d (List.getD (List.getD r8 (Int.toNat x2) []) 2 D.junk), X.d (List.getD (List.getD
  r8 (Int.toNat x2) []) 3 D.junk), X.d (List.getD (List.getD r8 (Int.toNat x2) []) 4 D.junk), X.d (List.getD (List.getD r8 (Int.toNat x2) []) 5 D.junk), X.d (List.getD (List.getD r8
  (Int.toNat x2) []) 6 D.junk), X.d (List.getD (List.getD r8 (Int.toNat x2) []) 7 D.junk)], V.one (X.d (D.int iK x0)), V.one (X.d (D.int iK x1))] []) (fun i0_ => q69_1 Γ n1
  n2 i0_ x1 x2 x3 x4 s5 r6 r7 r8 x9 x10) fun d1_ => some (Out.mk false V.junk d1_ [] 0) else none := (Jn_step ..).trans (by kernel_rfl)
theorem q69_2_eq (Γ : Bool → SemL) (n1 : Nat) (x0 : Int) : q69_2 Γ n1 x0 = some (Out.mk true (V.one (X.d (D.int iK x0))) D.junk [] 0) := (Jn_step ..).trans (by kernel_rfl)
theorem e70_v1_eq (Γ : Bool → SemL) (n1 : Nat) (x0 : Int) (r1 : List (List D)) (x2 x3 : Int) : e70_v1 Γ n1 x0 r1 x2 x3 = l70_0_v1 n1 Γ n1 (IntKind.wrap iK (x2 + 1)) x3 0 x0
  r1 := (run_step ..).trans (by kernel_rfl)
theorem q31_1_v1_eq (Γ : Bool → SemL) (n1 : Nat) (n2 : Nat) (x0 : Int) (r1 : List (List D)) (x2 x3 : Int) : q31_1_v1 Γ n1 n2 x0 r1 x2 x3 = l31_0_v1 n1 Γ n2 x0 r1 x2 (IntKind.wrap
  iK (x3 + 1)) := (Jn_step ..).trans (by kernel_rfl)
theorem q69_1_eq (Γ : Bool → SemL) (n1 : Nat) (n2 : Nat) (x0 x1 x2 x3 x4 : Int) (s5 : ByteArray) (r6 r7 r8 : List (List D))
  (x9 x10 : Int) : q69_1 Γ n1 n2 x0 x1 x2 x3 x4 s5 r6 r7 r8 x9 x10 = l69_0 n1 Γ n2 x0 x1 (IntKind.wrap iK (x2 + 1)) x3 x4 s5 r6 r7 r8 x9 x10 := (Jn_step ..).trans (by
  kernel_rfl)
theorem l70_0_v1_eq (n0 : Nat) (Γ : Bool → SemL) (n2 : Nat) (x0 x1 x2 x3 : Int) (r4 : List (List D)) : l70_0_v1 (n0 + 1) Γ n2 x0 x1 x2 x3 r4 = bif decide (x2 <
  Int.ofNat (List.length r4)) then bif decide (x0 ≤ x1) then q70_0 Γ n0 n2 x0 x1 x2 x3 r4 else q70_2 Γ n2 x0 else q70_2 Γ n2 x0 := (loop_step ..).trans (by kernel_rfl)
theorem q70_0_eq (Γ : Bool → SemL) (n1 : Nat) (n2 : Nat) (x0 x1 x2 x3 : Int) (r4 : List (List D)) : q70_0 Γ n1 n2 x0 x1 x2 x3 r4 = bif decide (0 ≤ x2) && decide (x2 <
  Int.ofNat (List.length r4)) then r_oI (Γ false 70 [V.agg [X.d (List.getD (List.getD r4 (Int.toNat x2) []) 0 D.junk), X.d (List.getD (List.getD r4 (Int.toNat x2) []) 1 D.junk)], V.one (X.d
  (D.int iK x0)), V.one (X.d (D.int iK x1))] []) (fun i0_ => q70_1 Γ n1 n2 i0_ x1 x2 x3 r4) fun d1_ => some (Out.mk false V.junk d1_ [] 0) else none := (Jn_step ..).trans
  (by kernel_rfl)
theorem q70_2_eq (Γ : Bool → SemL) (n1 : Nat) (x0 : Int) : q70_2 Γ n1 x0 = some (Out.mk true (V.one (X.d (D.int iK x0))) D.junk [] 0) := (Jn_step ..).trans (by kernel_rfl)
theorem q70_1_eq (Γ : Bool → SemL) (n1 : Nat) (n2 : Nat) (x0 x1 x2 x3 : Int) (r4 : List (List D)) : q70_1 Γ n1 n2 x0 x1 x2 x3 r4 = l70_0_v1 n1 Γ n2 x0 x1 (IntKind.wrap
  iK (x2 + 1)) x3 r4 := (Jn_step ..).trans (by kernel_rfl)
theorem call4 (r0 r1 : List (List D)) (x2 x3 : Int) (s4 : ByteArray) (r5 r6 r7 : List (List D)) (x8 x9 : Int) (r10 r11 : List (List D)) (x12 x13 : Int) (s14 : ByteArray) (r15 r16 r17 : List (List D)) (x18 x19 : Int) {o : Out} (h : Ev (fun _
  k n => e4 (Ak k) n r0 r1 x2 x3 s4 r5 r6 r7 x8 x9 r10 r11 x12 x13 s14 r15 r16 r17 x18 x19) o) : Cal 4 [V.agg [X.d (D.list 5 r0), X.d (D.list 14 r1), X.d (D.int iK x2), X.d (D.int
  iK x3), X.d (D.str s4), X.d (D.list 1 r5), X.d (D.list 1 r6), X.d (D.list 8 r7), X.d (D.int iK x8), X.d (D.int iK x9)], V.agg [X.d (D.list 5 r10), X.d (D.list 14
  r11), X.d (D.int iK x12), X.d (D.int iK x13), X.d (D.str s14), X.d (D.list 1 r15), X.d (D.list 1 r16), X.d (D.list 8 r17), X.d (D.int iK x18), X.d (D.int
  iK x19)]] [] o := Ev.call (E := fun Γ n1 => e4 Γ n1 r0 r1 x2 x3 s4 r5 r6 r7 x8 x9 r10 r11 x12 x13 s14 r15 r16 r17 x18 x19) (fun k => call_step (by kernel_rfl) rfl) h
theorem call14 (x0 : Int) (r1 r2 : List (List D)) (x3 x4 : Int) (s5 : ByteArray) (r6 r7 r8 : List (List D)) (x9 x10 : Int) {o : Out} (h : Ev (fun _ k n => e14 (Ak k) n x0 r1 r2 x3 x4 s5 r6 r7 r8 x9 x10) o) : Cal 14 [V.one (X.d (D.int iK x0)), V.agg [X.d (D.list 5 r1), X.d (D.list 14 r2), X.d
  (D.int iK x3), X.d (D.int iK x4), X.d (D.str s5), X.d (D.list 1 r6), X.d (D.list 1 r7), X.d (D.list 8 r8), X.d (D.int iK x9), X.d (D.int iK x10)]] [] o
  := Ev.call (E := fun Γ n1 => e14 Γ n1 x0 r1 r2 x3 x4 s5 r6 r7 r8 x9 x10) (fun k => call_step (by kernel_rfl) rfl) h
theorem call30 (x0 : Int) (r1 : List (List D)) {o : Out} (h : Ev (fun _ k n => e30 (Ak k) n x0 r1) o) : Cal 30 [V.one (X.d (D.int iK x0)), V.one (X.d (D.list 8 r1))] [] o := Ev.call
  (E := fun Γ n1 => e30 Γ n1 x0 r1) (fun k => call_step (by kernel_rfl) rfl) h
theorem call31 (x0 : Int) {o : Out} (h : Ev (fun _ k n => e31 (Ak k) n x0) o) : Cal 31 [V.one (X.d (D.int iK x0)), V.one (X.nilL 2)] [] o := Ev.call (E := fun Γ n1 => e31 Γ n1 x0)
  (fun k => call_step (by kernel_rfl) rfl) h
theorem call31_v1 (x0 : Int) (r1 : List (List D)) {o : Out} (h : Ev (fun _ k n => e31_v1 (Ak k) n x0 r1) o) : Cal 31 [V.one (X.d (D.int iK x0)), V.one (X.d (D.list 2 r1))] [] o :=
  Ev.call (E := fun Γ n1 => e31_v1 Γ n1 x0 r1) (fun k => call_step (by kernel_rfl) rfl) h
theorem call69 (x0 x1 : Int) (s2 : ByteArray) (r3 r4 r5 : List (List D)) (x6 x7 x8 x9 : Int) {o : Out} (h : Ev (fun _ k n
  => e69 (Ak k) n x0 x1 s2 r3 r4 r5 x6 x7 x8 x9) o) : Cal 69 [V.agg [X.d (D.int iK x0), X.d (D.int iK x1), X.d (D.str s2), X.d (D.list 1 r3), X.d (D.list 1 r4), X.d (D.list
  8 r5), X.d (D.int iK x6), X.d (D.int iK x7)], V.one (X.d (D.int iK x8)), V.one (X.d (D.int iK x9))] [] o := Ev.call (E := fun Γ n1 => e69 Γ n1 x0 x1 s2
  r3 r4 r5 x6 x7 x8 x9) (fun k => call_step (by kernel_rfl) rfl) h
theorem call70_v1 (x0 : Int) (r1 : List (List D)) (x2 x3 : Int) {o : Out} (h : Ev (fun _ k n => e70_v1 (Ak k) n x0 r1 x2 x3) o) : Cal 70 [V.agg [X.d (D.int iK x0), X.d
  (D.list 2 r1)], V.one (X.d (D.int iK x2)), V.one (X.d (D.int iK x3))] [] o := Ev.call (E := fun Γ n1 => e70_v1 Γ n1 x0 r1 x2 x3) (fun k => call_step (by kernel_rfl) rfl) h
end Go.Proofs.Ytbmcafehpgimfaa.Ps
