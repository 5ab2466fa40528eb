/- What the pieces of the functions do, as functions of their data. Printed by pack4.py. -/
import Derived.Test.YtaphnbaiamnfpaaDoorPv0
namespace Go.Proofs.YtaphnbaiamnfpaaDoor.Ps
set_option maxHeartbeats 0
set_option maxRecDepth 100000
set_option linter.unusedVariables false
open Go Go.RowKit
noncomputable def e7 (Γ : Bool → SemL) (n1 : Nat) (x0 : Int) (r1 : List (List D)) (r2 : List (List D)) (x3 : Int) (x4 : Int) (s5 : ByteArray) (r6 : List (List D)) (r7 : List (List D)) (r8 :
  List (List D)) (x9 : Int) (x10 : Int) : Option Out := runF Γ shp rc false (shp 7) sf7 n1 [V.one (X.d (D.int IntKind.i64 x0)), V.agg [X.d (D.list 5 r1), X.d (D.list 14 r2), X.d (D.int
  IntKind.i64 x3), X.d (D.int IntKind.i64 x4), X.d (D.str s5), X.d (D.list 1 r6), X.d (D.list 1 r7), X.d (D.list 8 r8), X.d (D.int IntKind.i64 x9), X.d (D.int IntKind.i64 x10)]] []
noncomputable def e13 (Γ : Bool → SemL) (n1 : Nat) (x0 : Int) (r1 : List (List D)) : Option Out := runF Γ shp rc false (shp 13) sf13 n1 [V.one (X.d (D.int IntKind.i64 x0)), V.one (X.d (D.list
  8 r1))] []
noncomputable def q7_0 (Γ : Bool → SemL) (n1 : Nat) (x0 : Int) (r1 : List (List D)) (r2 : List (List D)) (x3 : Int) (x4 : Int) (s5 : ByteArray) (r6 : List (List D)) (r7 : List (List D)) (r8 :
  List (List D)) (x9 : Int) (x10 : Int) : Option Out := Jn (Γ false) shp n1 j7_0 (St.mk [(0, V.one (X.d (D.int IntKind.i64 x0))), (3, V.one (X.ptr 0 0))] [(0, Blk.mk [Lf.lst 5, Lf.lst 14,
  Lf.int IntKind.i64, Lf.int IntKind.i64, Lf.str, Lf.lst 1, Lf.lst 1, Lf.lst 8, Lf.int IntKind.i64, Lf.int IntKind.i64] [X.d (D.list 5 r1), X.d (D.list 14 r2), X.d (D.int IntKind.i64 x3), X.d
  (D.int IntKind.i64 x4), X.d (D.str s5), X.d (D.list 1 r6), X.d (D.list 1 r7), X.d (D.list 8 r8), X.d (D.int IntKind.i64 x9), X.d (D.int IntKind.i64 x10)])] [] 1 0 0 []) (finK (Γ true) rc
  false (shp 7) (SFunc.results sf7) 0)
noncomputable def l13_0 (n0 : Nat) (Γ : Bool → SemL) (n2 : Nat) (x0 : Int) (r1 : List (List D)) (x2 : Int) (x3 : Int) : Option Out := loopK (Γ false) shp n0 [0, 1, 5, 6] lb13_0 (St.mk [(0,
  V.one (X.d (D.int IntKind.i64 x0))), (1, V.one (X.d (D.list 8 r1))), (5, V.one (X.d (D.int IntKind.i64 x2))), (6, V.one (X.d (D.int IntKind.i64 x3)))] [] [] 0 0 0 []) (kBlk 0 (kSeq (some
  [0, 5]) (fun s K => Jn (Γ false) shp n2 j13_2 s K) (finK (Γ true) rc false (shp 13) (SFunc.results sf13) 0)))
noncomputable def l7_0 (n0 : Nat) (Γ : Bool → SemL) (n2 : Nat) (x0 : Int) (r1 : List (List D)) (x2 : Int) (r3 : List (List D)) (r4 : List (List D)) (x5 : Int) (x6 : Int) (s7 : ByteArray) (r8
  : List (List D)) (r9 : List (List D)) (r10 : List (List D)) (x11 : Int) (x12 : Int) : Option Out := loopK (Γ false) shp n0 [0, 3, 5, 6, 7] lb7_0 (St.mk [(0, V.one (X.d (D.int IntKind.i64
  x0))), (3, V.one (X.ptr 0 0)), (5, V.one (X.own 0 28 8 r1)), (6, V.one (X.nilL 2)), (7, V.one (X.d (D.int IntKind.i64 x2)))] [(0, Blk.mk [Lf.lst 5, Lf.lst 14, Lf.int IntKind.i64, Lf.int
  IntKind.i64, Lf.str, Lf.lst 1, Lf.lst 1, Lf.lst 8, Lf.int IntKind.i64, Lf.int IntKind.i64] [X.d (D.list 5 r3), X.d (D.list 14 r4), X.d (D.int IntKind.i64 x5), X.d (D.int IntKind.i64 x6),
  X.d (D.str s7), X.d (D.list 1 r8), X.d (D.list 1 r9), X.d (D.list 8 r10), X.d (D.int IntKind.i64 x11), X.d (D.int IntKind.i64 x12)])] [0] 1 1 0 []) (kBlk 0 (kSeq (some [0, 3, 5, 6]) (fun s
  K => Jn (Γ false) shp n2 j7_3 s K) (finK (Γ true) rc false (shp 7) (SFunc.results sf7) 0)))
noncomputable def q13_0 (Γ : Bool → SemL) (n1 : Nat) (n2 : Nat) (x0 : Int) (r1 : List (List D)) (x2 : Int) (x3 : Int) : Option Out := Jn (Γ false) shp n1 j13_0 (St.mk [(0, V.one (X.d (D.int
  IntKind.i64 x0))), (1, V.one (X.d (D.list 8 r1))), (5, V.one (X.d (D.int IntKind.i64 x2))), (6, V.one (X.d (D.int IntKind.i64 x3)))] [] [] 0 0 0 []) (kLoop (loopK (Γ false) shp n1) [0, 1,
  5, 6] lb13_0 (kBlk 0 (kSeq (some [0, 5]) (fun s K => Jn (Γ false) shp n2 j13_2 s K) (finK (Γ true) rc false (shp 13) (SFunc.results sf13) 0))))
noncomputable def q13_2 (Γ : Bool → SemL) (n1 : Nat) (x0 : Int) (x1 : Int) : Option Out := Jn (Γ false) shp n1 j13_2 (St.mk [(0, V.one (X.d (D.int IntKind.i64 x0))), (5, V.one (X.d (D.int
  IntKind.i64 x1)))] [] [] 0 0 0 []) (finK (Γ true) rc false (shp 13) (SFunc.results sf13) 0)
noncomputable def q7_1 (Γ : Bool → SemL) (n1 : Nat) (n2 : Nat) (x0 : Int) (r1 : List (List D)) (x2 : Int) (r3 : List (List D)) (r4 : List (List D)) (x5 : Int) (x6 : Int) (s7 : ByteArray) (r8
  : List (List D)) (r9 : List (List D)) (r10 : List (List D)) (x11 : Int) (x12 : Int) : Option Out := Jn (Γ false) shp n1 j7_1 (St.mk [(0, V.one (X.d (D.int IntKind.i64 x0))), (3, V.one
  (X.ptr 0 0)), (5, V.one (X.own 0 28 8 r1)), (6, V.one (X.nilL 2)), (7, V.one (X.d (D.int IntKind.i64 x2)))] [(0, Blk.mk [Lf.lst 5, Lf.lst 14, Lf.int IntKind.i64, Lf.int IntKind.i64, Lf.str,
  Lf.lst 1, Lf.lst 1, Lf.lst 8, Lf.int IntKind.i64, Lf.int IntKind.i64] [X.d (D.list 5 r3), X.d (D.list 14 r4), X.d (D.int IntKind.i64 x5), X.d (D.int IntKind.i64 x6), X.d (D.str s7), X.d
  (D.list 1 r8), X.d (D.list 1 r9), X.d (D.list 8 r10), X.d (D.int IntKind.i64 x11), X.d (D.int IntKind.i64 x12)])] [0] 1 1 0 []) (kLoop (loopK (Γ false) shp n1) [0, 3, 5, 6, 7] lb7_0 (kBlk 0
  (kSeq (some [0, 3, 5, 6]) (fun s K => Jn (Γ false) shp n2 j7_3 s K) (finK (Γ true) rc false (shp 7) (SFunc.results sf7) 0))))
noncomputable def q7_3 (Γ : Bool → SemL) (n1 : Nat) (x0 : Int) (r1 : List (List D)) (r2 : List (List D)) (r3 : List (List D)) (x4 : Int) (x5 : Int) (s6 : ByteArray) (r7 : List (List D)) (r8 :
  List (List D)) (r9 : List (List D)) (x10 : Int) (x11 : Int) : Option Out := Jn (Γ false) shp n1 j7_3 (St.mk [(0, V.one (X.d (D.int IntKind.i64 x0))), (3, V.one (X.ptr 0 0)), (5, V.one
  (X.own 0 28 8 r1)), (6, V.one (X.nilL 2))] [(0, Blk.mk [Lf.lst 5, Lf.lst 14, Lf.int IntKind.i64, Lf.int IntKind.i64, Lf.str, Lf.lst 1, Lf.lst 1, Lf.lst 8, Lf.int IntKind.i64, Lf.int
  IntKind.i64] [X.d (D.list 5 r2), X.d (D.list 14 r3), X.d (D.int IntKind.i64 x4), X.d (D.int IntKind.i64 x5), X.d (D.str s6), X.d (D.list 1 r7), X.d (D.list 1 r8), X.d (D.list 8 r9), X.d
  (D.int IntKind.i64 x10), X.d (D.int IntKind.i64 x11)])] [0] 1 1 0 []) (finK (Γ true) rc false (shp 7) (SFunc.results sf7) 0)
noncomputable def e34 (Γ : Bool → SemL) (n1 : Nat) (x0 : Int) (x1 : Int) (s2 : ByteArray) (r3 : List (List D)) (r4 : List (List D)) (r5 : List (List D)) (x6 : Int) (x7 : Int) (x8 : Int) (x9 :
  Int) : Option Out := runF Γ shp rc false (shp 34) sf34 n1 [V.agg [X.d (D.int IntKind.i64 x0), X.d (D.int IntKind.i64 x1), X.d (D.str s2), X.d (D.list 1 r3), X.d (D.list 1 r4), X.d (D.list 8
  r5), X.d (D.int IntKind.i64 x6), X.d (D.int IntKind.i64 x7)], V.one (X.d (D.int IntKind.i64 x8)), V.one (X.d (D.int IntKind.i64 x9))] []
noncomputable def q13_1 (Γ : Bool → SemL) (n1 : Nat) (n2 : Nat) (x0 : Int) (r1 : List (List D)) (x2 : Int) (x3 : Int) : Option Out := Jn (Γ false) shp n1 j13_1 (St.mk [(0, V.one (X.d (D.int
  IntKind.i64 x0))), (1, V.one (X.d (D.list 8 r1))), (5, V.one (X.d (D.int IntKind.i64 x2))), (6, V.one (X.d (D.int IntKind.i64 x3)))] [] [] 0 0 0 []) (kLoop (loopK (Γ false) shp n1) [0, 1,
  5, 6] lb13_0 (kBlk 0 (kSeq (some [0, 5]) (fun s K => Jn (Γ false) shp n2 j13_2 s K) (finK (Γ true) rc false (shp 13) (SFunc.results sf13) 0))))
noncomputable def q7_2 (Γ : Bool → SemL) (n1 : Nat) (n2 : Nat) (x0 : Int) (r1 : List (List D)) (r2 : List (List D)) (x3 : Int) (r4 : List (List D)) (r5 : List (List D)) (x6 : Int) (x7 : Int)
  (s8 : ByteArray) (r9 : List (List D)) (r10 : List (List D)) (r11 : List (List D)) (x12 : Int) (x13 : Int) : Option Out := Jn (Γ false) shp n1 j7_2 (St.mk [(0, V.one (X.d (D.int IntKind.i64
  x0))), (3, V.one (X.ptr 0 0)), (5, V.one (X.own 0 28 8 r1)), (6, V.one (X.own 1 58 2 r2)), (7, V.one (X.d (D.int IntKind.i64 x3)))] [(0, Blk.mk [Lf.lst 5, Lf.lst 14, Lf.int IntKind.i64,
  Lf.int IntKind.i64, Lf.str, Lf.lst 1, Lf.lst 1, Lf.lst 8, Lf.int IntKind.i64, Lf.int IntKind.i64] [X.d (D.list 5 r4), X.d (D.list 14 r5), X.d (D.int IntKind.i64 x6), X.d (D.int IntKind.i64
  x7), X.d (D.str s8), X.d (D.list 1 r9), X.d (D.list 1 r10), X.d (D.list 8 r11), X.d (D.int IntKind.i64 x12), X.d (D.int IntKind.i64 x13)])] [0, 1] 1 2 0 []) (kLoop (loopK (Γ false) shp n1)
  [0, 3, 5, 6, 7] lb7_0 (kBlk 0 (kSeq (some [0, 3, 5, 6]) (fun s K => Jn (Γ false) shp n2 j7_3 s K) (finK (Γ true) rc false (shp 7) (SFunc.results sf7) 0))))
noncomputable def l7_1 (n0 : Nat) (Γ : Bool → SemL) (n2 : Nat) (x0 : Int) (r1 : List (List D)) (x2 : Int) (r3 : List (List D)) (r4 : List (List D)) (x5 : Int) (x6 : Int) (s7 : ByteArray) (r8
  : List (List D)) (r9 : List (List D)) (r10 : List (List D)) (x11 : Int) (x12 : Int) : Option Out := loopK (Γ false) shp n0 [0, 3, 5, 6, 8] lb7_1 (St.mk [(0, V.one (X.d (D.int IntKind.i64
  x0))), (3, V.one (X.ptr 0 0)), (5, V.one (X.own 0 28 8 r1)), (6, V.one (X.nilL 2)), (8, V.one (X.d (D.int IntKind.i64 x2)))] [(0, Blk.mk [Lf.lst 5, Lf.lst 14, Lf.int IntKind.i64, Lf.int
  IntKind.i64, Lf.str, Lf.lst 1, Lf.lst 1, Lf.lst 8, Lf.int IntKind.i64, Lf.int IntKind.i64] [X.d (D.list 5 r3), X.d (D.list 14 r4), X.d (D.int IntKind.i64 x5), X.d (D.int IntKind.i64 x6),
  X.d (D.str s7), X.d (D.list 1 r8), X.d (D.list 1 r9), X.d (D.list 8 r10), X.d (D.int IntKind.i64 x11), X.d (D.int IntKind.i64 x12)])] [0] 1 1 0 []) (kBlk 2 (kSeq (some [0, 5, 6]) (fun s K
  => Jn (Γ false) shp n2 j7_9 s K) (finK (Γ true) rc false (shp 7) (SFunc.results sf7) 0)))
noncomputable def l34_0 (n0 : Nat) (Γ : Bool → SemL) (n2 : Nat) (x0 : Int) (x1 : Int) (x2 : Int) (x3 : Int) (x4 : Int) (s5 : ByteArray) (r6 : List (List D)) (r7 : List (List D)) (r8 : List
  (List D)) (x9 : Int) (x10 : Int) : Option Out := loopK (Γ false) shp n0 [1, 2, 3, 7] lb34_0 (St.mk [(1, V.one (X.d (D.int IntKind.i64 x0))), (2, V.one (X.d (D.int IntKind.i64 x1))), (3,
  V.one (X.ptr 0 0)), (7, V.one (X.d (D.int IntKind.i64 x2)))] [(0, Blk.mk [Lf.int IntKind.i64, Lf.int IntKind.i64, Lf.str, Lf.lst 1, Lf.lst 1, Lf.lst 8, Lf.int IntKind.i64, Lf.int
  IntKind.i64] [X.d (D.int IntKind.i64 x3), X.d (D.int IntKind.i64 x4), X.d (D.str s5), X.d (D.list 1 r6), X.d (D.list 1 r7), X.d (D.list 8 r8), X.d (D.int IntKind.i64 x9), X.d (D.int
  IntKind.i64 x10)])] [] 1 0 0 []) (kBlk 0 (kSeq (some [1]) (fun s K => Jn (Γ false) shp n2 j34_2 s K) (finK (Γ true) rc false (shp 34) (SFunc.results sf34) 0)))
noncomputable def l7_0_v1 (n0 : Nat) (Γ : Bool → SemL) (n2 : Nat) (x0 : Int) (r1 : List (List D)) (r2 : List (List D)) (x3 : Int) (r4 : List (List D)) (r5 : List (List D)) (x6 : Int) (x7 :
  Int) (s8 : ByteArray) (r9 : List (List D)) (r10 : List (List D)) (r11 : List (List D)) (x12 : Int) (x13 : Int) : Option Out := loopK (Γ false) shp n0 [0, 3, 5, 6, 7] lb7_0 (St.mk [(0, V.one
  (X.d (D.int IntKind.i64 x0))), (3, V.one (X.ptr 0 0)), (5, V.one (X.own 0 28 8 r1)), (6, V.one (X.own 1 58 2 r2)), (7, V.one (X.d (D.int IntKind.i64 x3)))] [(0, Blk.mk [Lf.lst 5, Lf.lst 14,
  Lf.int IntKind.i64, Lf.int IntKind.i64, Lf.str, Lf.lst 1, Lf.lst 1, Lf.lst 8, Lf.int IntKind.i64, Lf.int IntKind.i64] [X.d (D.list 5 r4), X.d (D.list 14 r5), X.d (D.int IntKind.i64 x6), X.d
  (D.int IntKind.i64 x7), X.d (D.str s8), X.d (D.list 1 r9), X.d (D.list 1 r10), X.d (D.list 8 r11), X.d (D.int IntKind.i64 x12), X.d (D.int IntKind.i64 x13)])] [0, 1] 1 2 0 []) (kBlk 0 (kSeq
  (some [0, 3, 5, 6]) (fun s K => Jn (Γ false) shp n2 j7_3 s K) (finK (Γ true) rc false (shp 7) (SFunc.results sf7) 0)))
noncomputable def q7_4 (Γ : Bool → SemL) (n1 : Nat) (n2 : Nat) (x0 : Int) (r1 : List (List D)) (x2 : Int) (r3 : List (List D)) (r4 : List (List D)) (x5 : Int) (x6 : Int) (s7 : ByteArray) (r8
  : List (List D)) (r9 : List (List D)) (r10 : List (List D)) (x11 : Int) (x12 : Int) : Option Out := Jn (Γ false) shp n1 j7_4 (St.mk [(0, V.one (X.d (D.int IntKind.i64 x0))), (3, V.one
  (X.ptr 0 0)), (5, V.one (X.own 0 28 8 r1)), (6, V.one (X.nilL 2)), (8, V.one (X.d (D.int IntKind.i64 x2)))] [(0, Blk.mk [Lf.lst 5, Lf.lst 14, Lf.int IntKind.i64, Lf.int IntKind.i64, Lf.str,
  Lf.lst 1, Lf.lst 1, Lf.lst 8, Lf.int IntKind.i64, Lf.int IntKind.i64] [X.d (D.list 5 r3), X.d (D.list 14 r4), X.d (D.int IntKind.i64 x5), X.d (D.int IntKind.i64 x6), X.d (D.str s7), X.d
  (D.list 1 r8), X.d (D.list 1 r9), X.d (D.list 8 r10), X.d (D.int IntKind.i64 x11), X.d (D.int IntKind.i64 x12)])] [0] 1 1 0 []) (kLoop (loopK (Γ false) shp n1) [0, 3, 5, 6, 8] lb7_1 (kBlk 2
  (kSeq (some [0, 5, 6]) (fun s K => Jn (Γ false) shp n2 j7_9 s K) (finK (Γ true) rc false (shp 7) (SFunc.results sf7) 0))))
noncomputable def q7_9 (Γ : Bool → SemL) (n1 : Nat) (x0 : Int) (r1 : List (List D)) : Option Out := Jn (Γ false) shp n1 j7_9 (St.mk [(0, V.one (X.d (D.int IntKind.i64 x0))), (5, V.one (X.own
  0 28 8 r1)), (6, V.one (X.nilL 2))] [] [0] 0 1 0 []) (finK (Γ true) rc false (shp 7) (SFunc.results sf7) 0)
noncomputable def q34_0 (Γ : Bool → SemL) (n1 : Nat) (n2 : Nat) (x0 : Int) (x1 : Int) (x2 : Int) (x3 : Int) (x4 : Int) (s5 : ByteArray) (r6 : List (List D)) (r7 : List (List D)) (r8 : List
  (List D)) (x9 : Int) (x10 : Int) : Option Out := Jn (Γ false) shp n1 j34_0 (St.mk [(1, V.one (X.d (D.int IntKind.i64 x0))), (2, V.one (X.d (D.int IntKind.i64 x1))), (3, V.one (X.ptr 0 0)),
  (7, V.one (X.d (D.int IntKind.i64 x2)))] [(0, Blk.mk [Lf.int IntKind.i64, Lf.int IntKind.i64, Lf.str, Lf.lst 1, Lf.lst 1, Lf.lst 8, Lf.int IntKind.i64, Lf.int IntKind.i64] [X.d (D.int
  IntKind.i64 x3), X.d (D.int IntKind.i64 x4), X.d (D.str s5), X.d (D.list 1 r6), X.d (D.list 1 r7), X.d (D.list 8 r8), X.d (D.int IntKind.i64 x9), X.d (D.int IntKind.i64 x10)])] [] 1 0 0 [])
  (kLoop (loopK (Γ false) shp n1) [1, 2, 3, 7] lb34_0 (kBlk 0 (kSeq (some [1]) (fun s K => Jn (Γ false) shp n2 j34_2 s K) (finK (Γ true) rc false (shp 34) (SFunc.results sf34) 0))))
noncomputable def q34_2 (Γ : Bool → SemL) (n1 : Nat) (x0 : Int) : Option Out := Jn (Γ false) shp n1 j34_2 (St.mk [(1, V.one (X.d (D.int IntKind.i64 x0)))] [] [] 0 0 0 []) (finK (Γ true) rc
  false (shp 34) (SFunc.results sf34) 0)
noncomputable def q7_1_v1 (Γ : Bool → SemL) (n1 : Nat) (n2 : Nat) (x0 : Int) (r1 : List (List D)) (r2 : List (List D)) (x3 : Int) (r4 : List (List D)) (r5 : List (List D)) (x6 : Int) (x7 :
  Int) (s8 : ByteArray) (r9 : List (List D)) (r10 : List (List D)) (r11 : List (List D)) (x12 : Int) (x13 : Int) : Option Out := Jn (Γ false) shp n1 j7_1 (St.mk [(0, V.one (X.d (D.int
  IntKind.i64 x0))), (3, V.one (X.ptr 0 0)), (5, V.one (X.own 0 28 8 r1)), (6, V.one (X.own 1 58 2 r2)), (7, V.one (X.d (D.int IntKind.i64 x3)))] [(0, Blk.mk [Lf.lst 5, Lf.lst 14, Lf.int
  IntKind.i64, Lf.int IntKind.i64, Lf.str, Lf.lst 1, Lf.lst 1, Lf.lst 8, Lf.int IntKind.i64, Lf.int IntKind.i64] [X.d (D.list 5 r4), X.d (D.list 14 r5), X.d (D.int IntKind.i64 x6), X.d (D.int
  IntKind.i64 x7), X.d (D.str s8), X.d (D.list 1 r9), X.d (D.list 1 r10), X.d (D.list 8 r11), X.d (D.int IntKind.i64 x12), X.d (D.int IntKind.i64 x13)])] [0, 1] 1 2 0 []) (kLoop (loopK (Γ
  false) shp n1) [0, 3, 5, 6, 7] lb7_0 (kBlk 0 (kSeq (some [0, 3, 5, 6]) (fun s K => Jn (Γ false) shp n2 j7_3 s K) (finK (Γ true) rc false (shp 7) (SFunc.results sf7) 0))))
noncomputable def q7_3_v1 (Γ : Bool → SemL) (n1 : Nat) (x0 : Int) (r1 : List (List D)) (r2 : List (List D)) (r3 : List (List D)) (r4 : List (List D)) (x5 : Int) (x6 : Int) (s7 : ByteArray)
  (r8 : List (List D)) (r9 : List (List D)) (r10 : List (List D)) (x11 : Int) (x12 : Int) : Option Out := Jn (Γ false) shp n1 j7_3 (St.mk [(0, V.one (X.d (D.int IntKind.i64 x0))), (3, V.one
  (X.ptr 0 0)), (5, V.one (X.own 0 28 8 r1)), (6, V.one (X.own 1 58 2 r2))] [(0, Blk.mk [Lf.lst 5, Lf.lst 14, Lf.int IntKind.i64, Lf.int IntKind.i64, Lf.str, Lf.lst 1, Lf.lst 1, Lf.lst 8,
  Lf.int IntKind.i64, Lf.int IntKind.i64] [X.d (D.list 5 r3), X.d (D.list 14 r4), X.d (D.int IntKind.i64 x5), X.d (D.int IntKind.i64 x6), X.d (D.str s7), X.d (D.list 1 r8), X.d (D.list 1 r9),
  X.d (D.list 8 r10), X.d (D.int IntKind.i64 x11), X.d (D.int IntKind.i64 x12)])] [0, 1] 1 2 0 []) (finK (Γ true) rc false (shp 7) (SFunc.results sf7) 0)
noncomputable def q7_5 (Γ : Bool → SemL) (n1 : Nat) (n2 : Nat) (x0 : Int) (r1 : List (List D)) (x2 : Int) (r3 : List (List D)) (r4 : List (List D)) (x5 : Int) (x6 : Int) (s7 : ByteArray) (r8
  : List (List D)) (r9 : List (List D)) (r10 : List (List D)) (x11 : Int) (x12 : Int) : Option Out := Jn (Γ false) shp n1 j7_5 (St.mk [(0, V.one (X.d (D.int IntKind.i64 x0))), (3, V.one
  (X.ptr 0 0)), (5, V.one (X.own 0 28 8 r1)), (6, V.one (X.nilL 2)), (8, V.one (X.d (D.int IntKind.i64 x2)))] [(0, Blk.mk [Lf.lst 5, Lf.lst 14, Lf.int IntKind.i64, Lf.int IntKind.i64, Lf.str,
  Lf.lst 1, Lf.lst 1, Lf.lst 8, Lf.int IntKind.i64, Lf.int IntKind.i64] [X.d (D.list 5 r3), X.d (D.list 14 r4), X.d (D.int IntKind.i64 x5), X.d (D.int IntKind.i64 x6), X.d (D.str s7), X.d
  (D.list 1 r8), X.d (D.list 1 r9), X.d (D.list 8 r10), X.d (D.int IntKind.i64 x11), X.d (D.int IntKind.i64 x12)])] [0] 1 1 0 []) (kBlk 3 (kSeq (some [0, 3, 5, 6, 8]) (fun s K => Jn (Γ false)
  shp n1 j7_8 s K) (kLoop (loopK (Γ false) shp n1) [0, 3, 5, 6, 8] lb7_1 (kBlk 2 (kSeq (some [0, 5, 6]) (fun s K => Jn (Γ false) shp n2 j7_9 s K) (finK (Γ true) rc false (shp 7)
  (SFunc.results sf7) 0))))))
noncomputable def e22 (Γ : Bool → SemL) (n1 : Nat) (x0 : Int) : Option Out := runF Γ shp rc false (shp 22) sf22 n1 [V.one (X.d (D.int IntKind.i64 x0)), V.one (X.nilL 2)] []
noncomputable def q34_1 (Γ : Bool → SemL) (n1 : Nat) (n2 : Nat) (x0 : Int) (x1 : Int) (x2 : Int) (x3 : Int) (x4 : Int) (s5 : ByteArray) (r6 : List (List D)) (r7 : List (List D)) (r8 : List
  (List D)) (x9 : Int) (x10 : Int) : Option Out := Jn (Γ false) shp n1 j34_1 (St.mk [(1, V.one (X.d (D.int IntKind.i64 x0))), (2, V.one (X.d (D.int IntKind.i64 x1))), (3, V.one (X.ptr 0 0)),
  (7, V.one (X.d (D.int IntKind.i64 x2)))] [(0, Blk.mk [Lf.int IntKind.i64, Lf.int IntKind.i64, Lf.str, Lf.lst 1, Lf.lst 1, Lf.lst 8, Lf.int IntKind.i64, Lf.int IntKind.i64] [X.d (D.int
  IntKind.i64 x3), X.d (D.int IntKind.i64 x4), X.d (D.str s5), X.d (D.list 1 r6), X.d (D.list 1 r7), X.d (D.list 8 r8), X.d (D.int IntKind.i64 x9), X.d (D.int IntKind.i64 x10)])] [] 1 0 0 [])
  (kLoop (loopK (Γ false) shp n1) [1, 2, 3, 7] lb34_0 (kBlk 0 (kSeq (some [1]) (fun s K => Jn (Γ false) shp n2 j34_2 s K) (finK (Γ true) rc false (shp 34) (SFunc.results sf34) 0))))
noncomputable def l7_1_v1 (n0 : Nat) (Γ : Bool → SemL) (n2 : Nat) (x0 : Int) (r1 : List (List D)) (r2 : List (List D)) (x3 : Int) (r4 : List (List D)) (r5 : List (List D)) (x6 : Int) (x7 :
  Int) (s8 : ByteArray) (r9 : List (List D)) (r10 : List (List D)) (r11 : List (List D)) (x12 : Int) (x13 : Int) : Option Out := loopK (Γ false) shp n0 [0, 3, 5, 6, 8] lb7_1 (St.mk [(0, V.one
  (X.d (D.int IntKind.i64 x0))), (3, V.one (X.ptr 0 0)), (5, V.one (X.own 0 28 8 r1)), (6, V.one (X.own 1 58 2 r2)), (8, V.one (X.d (D.int IntKind.i64 x3)))] [(0, Blk.mk [Lf.lst 5, Lf.lst 14,
  Lf.int IntKind.i64, Lf.int IntKind.i64, Lf.str, Lf.lst 1, Lf.lst 1, Lf.lst 8, Lf.int IntKind.i64, Lf.int IntKind.i64] [X.d (D.list 5 r4), X.d (D.list 14 r5), X.d (D.int IntKind.i64 x6), X.d
  (D.int IntKind.i64 x7), X.d (D.str s8), X.d (D.list 1 r9), X.d (D.list 1 r10), X.d (D.list 8 r11), X.d (D.int IntKind.i64 x12), X.d (D.int IntKind.i64 x13)])] [0, 1] 1 2 0 []) (kBlk 2 (kSeq
  (some [0, 5, 6]) (fun s K => Jn (Γ false) shp n2 j7_9 s K) (finK (Γ true) rc false (shp 7) (SFunc.results sf7) 0)))
noncomputable def l7_2 (n0 : Nat) (Γ : Bool → SemL) (n2 : Nat) (n3 : Nat) (x0 : Int) (r1 : List (List D)) (r2 : List (List D)) (x3 : Int) (x4 : Int) (r5 : List (List D)) (r6 : List (List D))
  (x7 : Int) (x8 : Int) (s9 : ByteArray) (r10 : List (List D)) (r11 : List (List D)) (r12 : List (List D)) (x13 : Int) (x14 : Int) : Option Out := loopK (Γ false) shp n0 [0, 3, 5, 6, 8, 9]
  lb7_2 (St.mk [(0, V.one (X.d (D.int IntKind.i64 x0))), (3, V.one (X.ptr 0 0)), (5, V.one (X.own 0 28 8 r1)), (6, V.one (X.own 1 58 2 r2)), (8, V.one (X.d (D.int IntKind.i64 x3))), (9, V.one
  (X.d (D.int IntKind.i64 x4)))] [(0, Blk.mk [Lf.lst 5, Lf.lst 14, Lf.int IntKind.i64, Lf.int IntKind.i64, Lf.str, Lf.lst 1, Lf.lst 1, Lf.lst 8, Lf.int IntKind.i64, Lf.int IntKind.i64] [X.d
  (D.list 5 r5), X.d (D.list 14 r6), X.d (D.int IntKind.i64 x7), X.d (D.int IntKind.i64 x8), X.d (D.str s9), X.d (D.list 1 r10), X.d (D.list 1 r11), X.d (D.list 8 r12), X.d (D.int IntKind.i64
  x13), X.d (D.int IntKind.i64 x14)])] [0, 1] 1 2 0 []) (kBlk 4 (kBlk 3 (kSeq (some [0, 3, 5, 6, 8]) (fun s K => Jn (Γ false) shp n2 j7_8 s K) (kLoop (loopK (Γ false) shp n2) [0, 3, 5, 6, 8]
  lb7_1 (kBlk 2 (kSeq (some [0, 5, 6]) (fun s K => Jn (Γ false) shp n3 j7_9 s K) (finK (Γ true) rc false (shp 7) (SFunc.results sf7) 0)))))))
noncomputable def l22_0 (n0 : Nat) (Γ : Bool → SemL) (n2 : Nat) (x0 : Int) (x1 : Int) (x2 : Int) : Option Out := loopK (Γ false) shp n0 [0, 1, 5, 6] lb22_0 (St.mk [(0, V.one (X.d (D.int
  IntKind.i64 x0))), (1, V.one (X.nilL 2)), (5, V.one (X.d (D.int IntKind.i64 x1))), (6, V.one (X.d (D.int IntKind.i64 x2)))] [] [] 0 0 0 []) (kBlk 0 (kSeq (some [0, 5]) (fun s K => Jn (Γ
  false) shp n2 j22_2 s K) (finK (Γ true) rc false (shp 22) (SFunc.results sf22) 0)))
noncomputable def q7_4_v1 (Γ : Bool → SemL) (n1 : Nat) (n2 : Nat) (x0 : Int) (r1 : List (List D)) (r2 : List (List D)) (x3 : Int) (r4 : List (List D)) (r5 : List (List D)) (x6 : Int) (x7 :
  Int) (s8 : ByteArray) (r9 : List (List D)) (r10 : List (List D)) (r11 : List (List D)) (x12 : Int) (x13 : Int) : Option Out := Jn (Γ false) shp n1 j7_4 (St.mk [(0, V.one (X.d (D.int
  IntKind.i64 x0))), (3, V.one (X.ptr 0 0)), (5, V.one (X.own 0 28 8 r1)), (6, V.one (X.own 1 58 2 r2)), (8, V.one (X.d (D.int IntKind.i64 x3)))] [(0, Blk.mk [Lf.lst 5, Lf.lst 14, Lf.int
  IntKind.i64, Lf.int IntKind.i64, Lf.str, Lf.lst 1, Lf.lst 1, Lf.lst 8, Lf.int IntKind.i64, Lf.int IntKind.i64] [X.d (D.list 5 r4), X.d (D.list 14 r5), X.d (D.int IntKind.i64 x6), X.d (D.int
  IntKind.i64 x7), X.d (D.str s8), X.d (D.list 1 r9), X.d (D.list 1 r10), X.d (D.list 8 r11), X.d (D.int IntKind.i64 x12), X.d (D.int IntKind.i64 x13)])] [0, 1] 1 2 0 []) (kLoop (loopK (Γ
  false) shp n1) [0, 3, 5, 6, 8] lb7_1 (kBlk 2 (kSeq (some [0, 5, 6]) (fun s K => Jn (Γ false) shp n2 j7_9 s K) (finK (Γ true) rc false (shp 7) (SFunc.results sf7) 0))))
noncomputable def q7_9_v1 (Γ : Bool → SemL) (n1 : Nat) (x0 : Int) (r1 : List (List D)) (r2 : List (List D)) : Option Out := Jn (Γ false) shp n1 j7_9 (St.mk [(0, V.one (X.d (D.int IntKind.i64
  x0))), (5, V.one (X.own 0 28 8 r1)), (6, V.one (X.own 1 58 2 r2))] [] [0, 1] 0 2 0 []) (finK (Γ true) rc false (shp 7) (SFunc.results sf7) 0)
noncomputable def q7_6 (Γ : Bool → SemL) (n1 : Nat) (n2 : Nat) (n3 : Nat) (x0 : Int) (r1 : List (List D)) (r2 : List (List D)) (x3 : Int) (x4 : Int) (r5 : List (List D)) (r6 : List (List D))
  (x7 : Int) (x8 : Int) (s9 : ByteArray) (r10 : List (List D)) (r11 : List (List D)) (r12 : List (List D)) (x13 : Int) (x14 : Int) : Option Out := Jn (Γ false) shp n1 j7_6 (St.mk [(0, V.one
  (X.d (D.int IntKind.i64 x0))), (3, V.one (X.ptr 0 0)), (5, V.one (X.own 0 28 8 r1)), (6, V.one (X.own 1 58 2 r2)), (8, V.one (X.d (D.int IntKind.i64 x3))), (9, V.one (X.d (D.int IntKind.i64
  x4)))] [(0, Blk.mk [Lf.lst 5, Lf.lst 14, Lf.int IntKind.i64, Lf.int IntKind.i64, Lf.str, Lf.lst 1, Lf.lst 1, Lf.lst 8, Lf.int IntKind.i64, Lf.int IntKind.i64] [X.d (D.list 5 r5), X.d
  (D.list 14 r6), X.d (D.int IntKind.i64 x7), X.d (D.int IntKind.i64 x8), X.d (D.str s9), X.d (D.list 1 r10), X.d (D.list 1 r11), X.d (D.list 8 r12), X.d (D.int IntKind.i64 x13), X.d (D.int
  IntKind.i64 x14)])] [0, 1] 1 2 0 []) (kLoop (loopK (Γ false) shp n1) [0, 3, 5, 6, 8, 9] lb7_2 (kBlk 4 (kBlk 3 (kSeq (some [0, 3, 5, 6, 8]) (fun s K => Jn (Γ false) shp n2 j7_8 s K) (kLoop
  (loopK (Γ false) shp n2) [0, 3, 5, 6, 8] lb7_1 (kBlk 2 (kSeq (some [0, 5, 6]) (fun s K => Jn (Γ false) shp n3 j7_9 s K) (finK (Γ true) rc false (shp 7) (SFunc.results sf7) 0))))))))
noncomputable def q7_8 (Γ : Bool → SemL) (n1 : Nat) (n2 : Nat) (x0 : Int) (r1 : List (List D)) (r2 : List (List D)) (x3 : Int) (r4 : List (List D)) (r5 : List (List D)) (x6 : Int) (x7 : Int)
  (s8 : ByteArray) (r9 : List (List D)) (r10 : List (List D)) (r11 : List (List D)) (x12 : Int) (x13 : Int) : Option Out := Jn (Γ false) shp n1 j7_8 (St.mk [(0, V.one (X.d (D.int IntKind.i64
  x0))), (3, V.one (X.ptr 0 0)), (5, V.one (X.own 0 28 8 r1)), (6, V.one (X.own 1 58 2 r2)), (8, V.one (X.d (D.int IntKind.i64 x3)))] [(0, Blk.mk [Lf.lst 5, Lf.lst 14, Lf.int IntKind.i64,
  Lf.int IntKind.i64, Lf.str, Lf.lst 1, Lf.lst 1, Lf.lst 8, Lf.int IntKind.i64, Lf.int IntKind.i64] [X.d (D.list 5 r4), X.d (D.list 14 r5), X.d (D.int IntKind.i64 x6), X.d (D.int IntKind.i64
  x7), X.d (D.str s8), X.d (D.list 1 r9), X.d (D.list 1 r10), X.d (D.list 8 r11), X.d (D.int IntKind.i64 x12), X.d (D.int IntKind.i64 x13)])] [0, 1] 1 2 0 []) (kLoop (loopK (Γ false) shp n1)
  [0, 3, 5, 6, 8] lb7_1 (kBlk 2 (kSeq (some [0, 5, 6]) (fun s K => Jn (Γ false) shp n2 j7_9 s K) (finK (Γ true) rc false (shp 7) (SFunc.results sf7) 0))))
noncomputable def q22_0 (Γ : Bool → SemL) (n1 : Nat) (n2 : Nat) (x0 : Int) (x1 : Int) (x2 : Int) : Option Out := Jn (Γ false) shp n1 j22_0 (St.mk [(0, V.one (X.d (D.int IntKind.i64 x0))), (1,
  V.one (X.nilL 2)), (5, V.one (X.d (D.int IntKind.i64 x1))), (6, V.one (X.d (D.int IntKind.i64 x2)))] [] [] 0 0 0 []) (kLoop (loopK (Γ false) shp n1) [0, 1, 5, 6] lb22_0 (kBlk 0 (kSeq (some
  [0, 5]) (fun s K => Jn (Γ false) shp n2 j22_2 s K) (finK (Γ true) rc false (shp 22) (SFunc.results sf22) 0))))
noncomputable def q22_2 (Γ : Bool → SemL) (n1 : Nat) (x0 : Int) (x1 : Int) : Option Out := Jn (Γ false) shp n1 j22_2 (St.mk [(0, V.one (X.d (D.int IntKind.i64 x0))), (5, V.one (X.d (D.int
  IntKind.i64 x1)))] [] [] 0 0 0 []) (finK (Γ true) rc false (shp 22) (SFunc.results sf22) 0)
noncomputable def q7_5_v1 (Γ : Bool → SemL) (n1 : Nat) (n2 : Nat) (x0 : Int) (r1 : List (List D)) (r2 : List (List D)) (x3 : Int) (r4 : List (List D)) (r5 : List (List D)) (x6 : Int) (x7 :
  Int) (s8 : ByteArray) (r9 : List (List D)) (r10 : List (List D)) (r11 : List (List D)) (x12 : Int) (x13 : Int) : Option Out := Jn (Γ false) shp n1 j7_5 (St.mk [(0, V.one (X.d (D.int
  IntKind.i64 x0))), (3, V.one (X.ptr 0 0)), (5, V.one (X.own 0 28 8 r1)), (6, V.one (X.own 1 58 2 r2)), (8, V.one (X.d (D.int IntKind.i64 x3)))] [(0, Blk.mk [Lf.lst 5, Lf.lst 14, Lf.int
  IntKind.i64, Lf.int IntKind.i64, Lf.str, Lf.lst 1, Lf.lst 1, Lf.lst 8, Lf.int IntKind.i64, Lf.int IntKind.i64] [X.d (D.list 5 r4), X.d (D.list 14 r5), X.d (D.int IntKind.i64 x6), X.d (D.int
  IntKind.i64 x7), X.d (D.str s8), X.d (D.list 1 r9), X.d (D.list 1 r10), X.d (D.list 8 r11), X.d (D.int IntKind.i64 x12), X.d (D.int IntKind.i64 x13)])] [0, 1] 1 2 0 []) (kBlk 3 (kSeq (some
  [0, 3, 5, 6, 8]) (fun s K => Jn (Γ false) shp n1 j7_8 s K) (kLoop (loopK (Γ false) shp n1) [0, 3, 5, 6, 8] lb7_1 (kBlk 2 (kSeq (some [0, 5, 6]) (fun s K => Jn (Γ false) shp n2 j7_9 s K)
  (finK (Γ true) rc false (shp 7) (SFunc.results sf7) 0))))))
noncomputable def e22_v1 (Γ : Bool → SemL) (n1 : Nat) (x0 : Int) (r1 : List (List D)) : Option Out := runF Γ shp rc false (shp 22) sf22 n1 [V.one (X.d (D.int IntKind.i64 x0)), V.one (X.d
  (D.list 2 r1))] []
noncomputable def q7_7 (Γ : Bool → SemL) (n1 : Nat) (n2 : Nat) (n3 : Nat) (x0 : Int) (r1 : List (List D)) (r2 : List (List D)) (x3 : Int) (x4 : Int) (r5 : List (List D)) (r6 : List (List D))
  (x7 : Int) (x8 : Int) (s9 : ByteArray) (r10 : List (List D)) (r11 : List (List D)) (r12 : List (List D)) (x13 : Int) (x14 : Int) : Option Out := Jn (Γ false) shp n1 j7_7 (St.mk [(0, V.one
  (X.d (D.int IntKind.i64 x0))), (3, V.one (X.ptr 0 0)), (5, V.one (X.own 0 28 8 r1)), (6, V.one (X.own 1 58 2 r2)), (8, V.one (X.d (D.int IntKind.i64 x3))), (9, V.one (X.d (D.int IntKind.i64
  x4)))] [(0, Blk.mk [Lf.lst 5, Lf.lst 14, Lf.int IntKind.i64, Lf.int IntKind.i64, Lf.str, Lf.lst 1, Lf.lst 1, Lf.lst 8, Lf.int IntKind.i64, Lf.int IntKind.i64] [X.d (D.list 5 r5), X.d
  (D.list 14 r6), X.d (D.int IntKind.i64 x7), X.d (D.int IntKind.i64 x8), X.d (D.str s9), X.d (D.list 1 r10), X.d (D.list 1 r11), X.d (D.list 8 r12), X.d (D.int IntKind.i64 x13), X.d (D.int
  IntKind.i64 x14)])] [0, 1] 1 2 0 []) (kLoop (loopK (Γ false) shp n1) [0, 3, 5, 6, 8, 9] lb7_2 (kBlk 4 (kBlk 3 (kSeq (some [0, 3, 5, 6, 8]) (fun s K => Jn (Γ false) shp n2 j7_8 s K) (kLoop
  (loopK (Γ false) shp n2) [0, 3, 5, 6, 8] lb7_1 (kBlk 2 (kSeq (some [0, 5, 6]) (fun s K => Jn (Γ false) shp n3 j7_9 s K) (finK (Γ true) rc false (shp 7) (SFunc.results sf7) 0))))))))
noncomputable def l22_0_v1 (n0 : Nat) (Γ : Bool → SemL) (n2 : Nat) (x0 : Int) (r1 : List (List D)) (x2 : Int) (x3 : Int) : Option Out := loopK (Γ false) shp n0 [0, 1, 5, 6] lb22_0 (St.mk [(0,
  V.one (X.d (D.int IntKind.i64 x0))), (1, V.one (X.d (D.list 2 r1))), (5, V.one (X.d (D.int IntKind.i64 x2))), (6, V.one (X.d (D.int IntKind.i64 x3)))] [] [] 0 0 0 []) (kBlk 0 (kSeq (some
  [0, 5]) (fun s K => Jn (Γ false) shp n2 j22_2 s K) (finK (Γ true) rc false (shp 22) (SFunc.results sf22) 0)))
noncomputable def q22_0_v1 (Γ : Bool → SemL) (n1 : Nat) (n2 : Nat) (x0 : Int) (r1 : List (List D)) (x2 : Int) (x3 : Int) : Option Out := Jn (Γ false) shp n1 j22_0 (St.mk [(0, V.one (X.d
  (D.int IntKind.i64 x0))), (1, V.one (X.d (D.list 2 r1))), (5, V.one (X.d (D.int IntKind.i64 x2))), (6, V.one (X.d (D.int IntKind.i64 x3)))] [] [] 0 0 0 []) (kLoop (loopK (Γ false) shp n1)
  [0, 1, 5, 6] lb22_0 (kBlk 0 (kSeq (some [0, 5]) (fun s K => Jn (Γ false) shp n2 j22_2 s K) (finK (Γ true) rc false (shp 22) (SFunc.results sf22) 0))))
noncomputable def e47_v1 (Γ : Bool → SemL) (n1 : Nat) (x0 : Int) (r1 : List (List D)) (x2 : Int) (x3 : Int) : Option Out := runF Γ shp rc false (shp 47) sf47 n1 [V.agg [X.d (D.int IntKind.i64
  x0), X.d (D.list 2 r1)], V.one (X.d (D.int IntKind.i64 x2)), V.one (X.d (D.int IntKind.i64 x3))] []
noncomputable def q22_1_v1 (Γ : Bool → SemL) (n1 : Nat) (n2 : Nat) (x0 : Int) (r1 : List (List D)) (x2 : Int) (x3 : Int) : Option Out := Jn (Γ false) shp n1 j22_1 (St.mk [(0, V.one (X.d
  (D.int IntKind.i64 x0))), (1, V.one (X.d (D.list 2 r1))), (5, V.one (X.d (D.int IntKind.i64 x2))), (6, V.one (X.d (D.int IntKind.i64 x3)))] [] [] 0 0 0 []) (kLoop (loopK (Γ false) shp n1)
  [0, 1, 5, 6] lb22_0 (kBlk 0 (kSeq (some [0, 5]) (fun s K => Jn (Γ false) shp n2 j22_2 s K) (finK (Γ true) rc false (shp 22) (SFunc.results sf22) 0))))
noncomputable def l47_0_v1 (n0 : Nat) (Γ : Bool → SemL) (n2 : Nat) (x0 : Int) (x1 : Int) (x2 : Int) (x3 : Int) (r4 : List (List D)) : Option Out := loopK (Γ false) shp n0 [1, 2, 3, 7] lb47_0
  (St.mk [(1, V.one (X.d (D.int IntKind.i64 x0))), (2, V.one (X.d (D.int IntKind.i64 x1))), (3, V.one (X.ptr 0 0)), (7, V.one (X.d (D.int IntKind.i64 x2)))] [(0, Blk.mk [Lf.int IntKind.i64,
  Lf.lst 2] [X.d (D.int IntKind.i64 x3), X.d (D.list 2 r4)])] [] 1 0 0 []) (kBlk 0 (kSeq (some [1]) (fun s K => Jn (Γ false) shp n2 j47_2 s K) (finK (Γ true) rc false (shp 47) (SFunc.results
  sf47) 0)))
noncomputable def q47_0 (Γ : Bool → SemL) (n1 : Nat) (n2 : Nat) (x0 : Int) (x1 : Int) (x2 : Int) (x3 : Int) (r4 : List (List D)) : Option Out := Jn (Γ false) shp n1 j47_0 (St.mk [(1, V.one
  (X.d (D.int IntKind.i64 x0))), (2, V.one (X.d (D.int IntKind.i64 x1))), (3, V.one (X.ptr 0 0)), (7, V.one (X.d (D.int IntKind.i64 x2)))] [(0, Blk.mk [Lf.int IntKind.i64, Lf.lst 2] [X.d
  (D.int IntKind.i64 x3), X.d (D.list 2 r4)])] [] 1 0 0 []) (kLoop (loopK (Γ false) shp n1) [1, 2, 3, 7] lb47_0 (kBlk 0 (kSeq (some [1]) (fun s K => Jn (Γ false) shp n2 j47_2 s K) (finK (Γ
  true) rc false (shp 47) (SFunc.results sf47) 0))))
noncomputable def q47_2 (Γ : Bool → SemL) (n1 : Nat) (x0 : Int) : Option Out := Jn (Γ false) shp n1 j47_2 (St.mk [(1, V.one (X.d (D.int IntKind.i64 x0)))] [] [] 0 0 0 []) (finK (Γ true) rc
  false (shp 47) (SFunc.results sf47) 0)
noncomputable def q47_1 (Γ : Bool → SemL) (n1 : Nat) (n2 : Nat) (x0 : Int) (x1 : Int) (x2 : Int) (x3 : Int) (r4 : List (List D)) : Option Out := Jn (Γ false) shp n1 j47_1 (St.mk [(1, V.one
  (X.d (D.int IntKind.i64 x0))), (2, V.one (X.d (D.int IntKind.i64 x1))), (3, V.one (X.ptr 0 0)), (7, V.one (X.d (D.int IntKind.i64 x2)))] [(0, Blk.mk [Lf.int IntKind.i64, Lf.lst 2] [X.d
  (D.int IntKind.i64 x3), X.d (D.list 2 r4)])] [] 1 0 0 []) (kLoop (loopK (Γ false) shp n1) [1, 2, 3, 7] lb47_0 (kBlk 0 (kSeq (some [1]) (fun s K => Jn (Γ false) shp n2 j47_2 s K) (finK (Γ
  true) rc false (shp 47) (SFunc.results sf47) 0))))
theorem e7_eq (Γ : Bool → SemL) (n1 : Nat) (x0 : Int) (r1 : List (List D)) (r2 : List (List D)) (x3 : Int) (x4 : Int) (s5 : ByteArray) (r6 : List (List D)) (r7 : List (List D)) (r8 : List
  (List D)) (x9 : Int) (x10 : Int) : e7 Γ n1 x0 r1 r2 x3 x4 s5 r6 r7 r8 x9 x10 = bif decide (Int.ofNat (List.length r1) > 100) then some (Out.mk true (V.one (X.d (D.bool false))) D.junk [] 0)
  else bif decide (Int.ofNat (List.length r2) > 100) then some (Out.mk true (V.one (X.d (D.bool false))) D.junk [] 0) else q7_0 Γ n1 x0 r1 r2 x3 x4 s5 r6 r7 r8 x9 x10 := (run_step ..).trans
  (by kernel_rfl)
theorem e13_eq (Γ : Bool → SemL) (n1 : Nat) (x0 : Int) (r1 : List (List D)) : e13 Γ n1 x0 r1 = l13_0 n1 Γ n1 x0 r1 0 0 := (run_step ..).trans (by kernel_rfl)
theorem q7_0_eq (Γ : Bool → SemL) (n1 : Nat) (x0 : Int) (r1 : List (List D)) (r2 : List (List D)) (x3 : Int) (x4 : Int) (s5 : ByteArray) (r6 : List (List D)) (r7 : List (List D)) (r8 : List
  (List D)) (x9 : Int) (x10 : Int) : q7_0 Γ n1 x0 r1 r2 x3 x4 s5 r6 r7 r8 x9 x10 = l7_0 n1 Γ n1 x0 [[D.int IntKind.i64 x3, D.int IntKind.i64 x4, D.str s5, D.list 1 r6, D.list 1 r7, D.list 8
  r8, D.int IntKind.i64 x9, D.int IntKind.i64 x10]] 0 r1 r2 x3 x4 s5 r6 r7 r8 x9 x10 := (Jn_step ..).trans (by kernel_rfl)
theorem l13_0_eq (n0 : Nat) (Γ : Bool → SemL) (n2 : Nat) (x0 : Int) (r1 : List (List D)) (x2 : Int) (x3 : Int) : l13_0 (n0 + 1) Γ n2 x0 r1 x2 x3 = bif decide (x3 < Int.ofNat (List.length r1))
  then q13_0 Γ n0 n2 x0 r1 x2 x3 else q13_2 Γ n2 x0 x2 := (loop_step ..).trans (by kernel_rfl)
theorem l7_0_eq (n0 : Nat) (Γ : Bool → SemL) (n2 : Nat) (x0 : Int) (r1 : List (List D)) (x2 : Int) (r3 : List (List D)) (r4 : List (List D)) (x5 : Int) (x6 : Int) (s7 : ByteArray) (r8 : List
  (List D)) (r9 : List (List D)) (r10 : List (List D)) (x11 : Int) (x12 : Int) : l7_0 (n0 + 1) Γ n2 x0 r1 x2 r3 r4 x5 x6 s7 r8 r9 r10 x11 x12 = bif decide (x2 < Int.ofNat (List.length r3))
  then q7_1 Γ n0 n2 x0 r1 x2 r3 r4 x5 x6 s7 r8 r9 r10 x11 x12 else q7_3 Γ n2 x0 r1 r3 r4 x5 x6 s7 r8 r9 r10 x11 x12 := (loop_step ..).trans (by kernel_rfl)
theorem q13_0_eq (Γ : Bool → SemL) (n1 : Nat) (n2 : Nat) (x0 : Int) (r1 : List (List D)) (x2 : Int) (x3 : Int) : q13_0 Γ n1 n2 x0 r1 x2 x3 = bif decide (0 ≤ x3) && decide (x3 < Int.ofNat
  (List.length r1)) then r_oI (Γ false 34 [V.agg [X.d (List.getD (List.getD r1 (Int.toNat x3) []) 0 D.junk), X.d (List.getD (List.getD r1 (Int.toNat x3) []) 1 D.junk), X.d (List.getD
  (List.getD r1 (Int.toNat x3) []) 2 D.junk), X.d (List.getD (List.getD r1 (Int.toNat x3) []) 3 D.junk), X.d (List.getD (List.getD r1 (Int.toNat x3) []) 4 D.junk), X.d (List.getD (List.getD
  r1 (Int.toNat x3) []) 5 D.junk), X.d (List.getD (List.getD r1 (Int.toNat x3) []) 6 D.junk), X.d (List.getD (List.getD r1 (Int.toNat x3) []) 7 D.junk)], V.one (X.d (D.int IntKind.i64 x2)),
  V.one (X.d (D.int IntKind.i64 x0))] []) (fun i0_ => q13_1 Γ n1 n2 x0 r1 i0_ x3) fun d1_ => some (Out.mk false V.junk d1_ [] 0) else none := (Jn_step ..).trans (by kernel_rfl)
theorem q13_2_eq (Γ : Bool → SemL) (n1 : Nat) (x0 : Int) (x1 : Int) : q13_2 Γ n1 x0 x1 = some (Out.mk true (V.one (X.d (D.bool (decide (x1 ≤ x0))))) D.junk [] 0) := (Jn_step ..).trans (by
  kernel_rfl)
theorem q7_1_eq (Γ : Bool → SemL) (n1 : Nat) (n2 : Nat) (x0 : Int) (r1 : List (List D)) (x2 : Int) (r3 : List (List D)) (r4 : List (List D)) (x5 : Int) (x6 : Int) (s7 : ByteArray) (r8 : List
  (List D)) (r9 : List (List D)) (r10 : List (List D)) (x11 : Int) (x12 : Int) : q7_1 Γ n1 n2 x0 r1 x2 r3 r4 x5 x6 s7 r8 r9 r10 x11 x12 = bif decide (0 ≤ x2) && decide (x2 < Int.ofNat
  (List.length r3)) then q7_2 Γ n1 n2 x0 r1 [[List.getD (List.getD r3 (Int.toNat x2) []) 1 D.junk, List.getD (List.getD r3 (Int.toNat x2) []) 2 D.junk]] x2 r3 r4 x5 x6 s7 r8 r9 r10 x11 x12
  else none := (Jn_step ..).trans (by kernel_rfl)
theorem q7_3_eq (Γ : Bool → SemL) (n1 : Nat) (x0 : Int) (r1 : List (List D)) (r2 : List (List D)) (r3 : List (List D)) (x4 : Int) (x5 : Int) (s6 : ByteArray) (r7 : List (List D)) (r8 : List
  (List D)) (r9 : List (List D)) (x10 : Int) (x11 : Int) : q7_3 Γ n1 x0 r1 r2 r3 x4 x5 s6 r7 r8 r9 x10 x11 = l7_1 n1 Γ n1 x0 r1 0 r2 r3 x4 x5 s6 r7 r8 r9 x10 x11 := (Jn_step ..).trans (by
  kernel_rfl)
theorem e34_eq (Γ : Bool → SemL) (n1 : Nat) (x0 : Int) (x1 : Int) (s2 : ByteArray) (r3 : List (List D)) (r4 : List (List D)) (r5 : List (List D)) (x6 : Int) (x7 : Int) (x8 : Int) (x9 : Int) :
  e34 Γ n1 x0 x1 s2 r3 r4 r5 x6 x7 x8 x9 = l34_0 n1 Γ n1 (IntKind.wrap IntKind.i64 (IntKind.wrap IntKind.i64 (IntKind.wrap IntKind.i64 (x8 + 1) + Int.ofNat (List.length r3)) + Int.ofNat
  (List.length r4))) x9 0 x0 x1 s2 r3 r4 r5 x6 x7 := (run_step ..).trans (by kernel_rfl)
theorem q13_1_eq (Γ : Bool → SemL) (n1 : Nat) (n2 : Nat) (x0 : Int) (r1 : List (List D)) (x2 : Int) (x3 : Int) : q13_1 Γ n1 n2 x0 r1 x2 x3 = l13_0 n1 Γ n2 x0 r1 x2 (IntKind.wrap IntKind.i64
  (x3 + 1)) := (Jn_step ..).trans (by kernel_rfl)
theorem q7_2_eq (Γ : Bool → SemL) (n1 : Nat) (n2 : Nat) (x0 : Int) (r1 : List (List D)) (r2 : List (List D)) (x3 : Int) (r4 : List (List D)) (r5 : List (List D)) (x6 : Int) (x7 : Int) (s8 :
  ByteArray) (r9 : List (List D)) (r10 : List (List D)) (r11 : List (List D)) (x12 : Int) (x13 : Int) : q7_2 Γ n1 n2 x0 r1 r2 x3 r4 r5 x6 x7 s8 r9 r10 r11 x12 x13 = l7_0_v1 n1 Γ n2 x0 r1 r2
  (IntKind.wrap IntKind.i64 (x3 + 1)) r4 r5 x6 x7 s8 r9 r10 r11 x12 x13 := (Jn_step ..).trans (by kernel_rfl)
theorem l7_1_eq (n0 : Nat) (Γ : Bool → SemL) (n2 : Nat) (x0 : Int) (r1 : List (List D)) (x2 : Int) (r3 : List (List D)) (r4 : List (List D)) (x5 : Int) (x6 : Int) (s7 : ByteArray) (r8 : List
  (List D)) (r9 : List (List D)) (r10 : List (List D)) (x11 : Int) (x12 : Int) : l7_1 (n0 + 1) Γ n2 x0 r1 x2 r3 r4 x5 x6 s7 r8 r9 r10 x11 x12 = bif decide (x2 < Int.ofNat (List.length r4))
  then q7_4 Γ n0 n2 x0 r1 x2 r3 r4 x5 x6 s7 r8 r9 r10 x11 x12 else q7_9 Γ n2 x0 r1 := (loop_step ..).trans (by kernel_rfl)
theorem l34_0_eq (n0 : Nat) (Γ : Bool → SemL) (n2 : Nat) (x0 : Int) (x1 : Int) (x2 : Int) (x3 : Int) (x4 : Int) (s5 : ByteArray) (r6 : List (List D)) (r7 : List (List D)) (r8 : List (List D))
  (x9 : Int) (x10 : Int) : l34_0 (n0 + 1) Γ n2 x0 x1 x2 x3 x4 s5 r6 r7 r8 x9 x10 = bif decide (x2 < Int.ofNat (List.length r8)) then bif decide (x0 ≤ x1) then q34_0 Γ n0 n2 x0 x1 x2 x3 x4 s5
  r6 r7 r8 x9 x10 else q34_2 Γ n2 x0 else q34_2 Γ n2 x0 := (loop_step ..).trans (by kernel_rfl)
theorem l7_0_v1_eq (n0 : Nat) (Γ : Bool → SemL) (n2 : Nat) (x0 : Int) (r1 : List (List D)) (r2 : List (List D)) (x3 : Int) (r4 : List (List D)) (r5 : List (List D)) (x6 : Int) (x7 : Int) (s8
  : ByteArray) (r9 : List (List D)) (r10 : List (List D)) (r11 : List (List D)) (x12 : Int) (x13 : Int) : l7_0_v1 (n0 + 1) Γ n2 x0 r1 r2 x3 r4 r5 x6 x7 s8 r9 r10 r11 x12 x13 = bif decide (x3
  < Int.ofNat (List.length r4)) then q7_1_v1 Γ n0 n2 x0 r1 r2 x3 r4 r5 x6 x7 s8 r9 r10 r11 x12 x13 else q7_3_v1 Γ n2 x0 r1 r2 r4 r5 x6 x7 s8 r9 r10 r11 x12 x13 := (loop_step ..).trans (by
  kernel_rfl)
theorem q7_4_eq (Γ : Bool → SemL) (n1 : Nat) (n2 : Nat) (x0 : Int) (r1 : List (List D)) (x2 : Int) (r3 : List (List D)) (r4 : List (List D)) (x5 : Int) (x6 : Int) (s7 : ByteArray) (r8 : List
  (List D)) (r9 : List (List D)) (r10 : List (List D)) (x11 : Int) (x12 : Int) : q7_4 Γ n1 n2 x0 r1 x2 r3 r4 x5 x6 s7 r8 r9 r10 x11 x12 = bif decide (0 ≤ x2) && decide (x2 < Int.ofNat
  (List.length r4)) then bif D.isL (List.getD (List.getD r4 (Int.toNat x2) []) 1 D.junk) then bif decide (Int.ofNat (List.length (D.rows (List.getD (List.getD r4 (Int.toNat x2) []) 1
  D.junk))) > 100) then some (Out.mk true (V.one (X.d (D.bool false))) D.junk [] 0) else q7_5 Γ n1 n2 x0 r1 x2 r3 r4 x5 x6 s7 r8 r9 r10 x11 x12 else none else none := (Jn_step ..).trans (by
  kernel_rfl)
theorem q7_9_eq (Γ : Bool → SemL) (n1 : Nat) (x0 : Int) (r1 : List (List D)) : q7_9 Γ n1 x0 r1 = r_oB (Γ false 13 [V.one (X.d (D.int IntKind.i64 x0)), V.one (X.d (D.list 8 r1))] []) (fun c0_
  => bif c0_ then r_oB (Γ false 22 [V.one (X.d (D.int IntKind.i64 x0)), V.one (X.nilL 2)] []) (fun c2_ => some (Out.mk true (V.one (X.d (D.bool c2_))) D.junk [] 0)) fun d3_ => some (Out.mk
  false V.junk d3_ [] 0) else some (Out.mk true (V.one (X.d (D.bool false))) D.junk [] 0)) fun d1_ => some (Out.mk false V.junk d1_ [] 0) := (Jn_step ..).trans (by kernel_rfl)
theorem q34_0_eq (Γ : Bool → SemL) (n1 : Nat) (n2 : Nat) (x0 : Int) (x1 : Int) (x2 : Int) (x3 : Int) (x4 : Int) (s5 : ByteArray) (r6 : List (List D)) (r7 : List (List D)) (r8 : List (List D))
  (x9 : Int) (x10 : Int) : q34_0 Γ n1 n2 x0 x1 x2 x3 x4 s5 r6 r7 r8 x9 x10 = bif decide (0 ≤ x2) && decide (x2 < Int.ofNat (List.length r8)) then r_oI (Γ false 34 [V.agg [X.d (List.getD
  (List.getD r8 (Int.toNat x2) []) 0 D.junk), X.d (List.getD (List.getD r8 (Int.toNat x2) []) 1 D.junk), X.d (List.getD (List.getD r8 (Int.toNat x2) []) 2 D.junk), X.d (List.getD (List.getD
  r8 (Int.toNat x2) []) 3 D.junk), X.d (List.getD (List.getD r8 (Int.toNat x2) []) 4 D.junk), X.d (List.getD (List.getD r8 (Int.toNat x2) []) 5 D.junk), X.d (List.getD (List.getD r8
  (Int.toNat x2) []) 6 D.junk), X.d (List.getD (List.getD r8 (Int.toNat x2) []) 7 D.junk)], V.one (X.d (D.int IntKind.i64 x0)), V.one (X.d (D.int IntKind.i64 x1))] []) (fun i0_ => q34_1 Γ n1
  n2 i0_ x1 x2 x3 x4 s5 r6 r7 r8 x9 x10) fun d1_ => some (Out.mk false V.junk d1_ [] 0) else none := (Jn_step ..).trans (by kernel_rfl)
theorem q34_2_eq (Γ : Bool → SemL) (n1 : Nat) (x0 : Int) : q34_2 Γ n1 x0 = some (Out.mk true (V.one (X.d (D.int IntKind.i64 x0))) D.junk [] 0) := (Jn_step ..).trans (by kernel_rfl)
theorem q7_1_v1_eq (Γ : Bool → SemL) (n1 : Nat) (n2 : Nat) (x0 : Int) (r1 : List (List D)) (r2 : List (List D)) (x3 : Int) (r4 : List (List D)) (r5 : List (List D)) (x6 : Int) (x7 : Int) (s8
  : ByteArray) (r9 : List (List D)) (r10 : List (List D)) (r11 : List (List D)) (x12 : Int) (x13 : Int) : q7_1_v1 Γ n1 n2 x0 r1 r2 x3 r4 r5 x6 x7 s8 r9 r10 r11 x12 x13 = bif decide (0 ≤ x3)
  && decide (x3 < Int.ofNat (List.length r4)) then bif true && true && true && Nat.ble ((List.length r2 + List.length [[List.getD (List.getD r4 (Int.toNat x3) []) 1 D.junk, List.getD
  (List.getD r4 (Int.toNat x3) []) 2 D.junk]]) * 33) 140737488355328 then q7_2 Γ n1 n2 x0 r1 (r2 ++ [[List.getD (List.getD r4 (Int.toNat x3) []) 1 D.junk, List.getD (List.getD r4 (Int.toNat
  x3) []) 2 D.junk]]) x3 r4 r5 x6 x7 s8 r9 r10 r11 x12 x13 else none else none := (Jn_step ..).trans (by kernel_rfl)
theorem q7_3_v1_eq (Γ : Bool → SemL) (n1 : Nat) (x0 : Int) (r1 : List (List D)) (r2 : List (List D)) (r3 : List (List D)) (r4 : List (List D)) (x5 : Int) (x6 : Int) (s7 : ByteArray) (r8 :
  List (List D)) (r9 : List (List D)) (r10 : List (List D)) (x11 : Int) (x12 : Int) : q7_3_v1 Γ n1 x0 r1 r2 r3 r4 x5 x6 s7 r8 r9 r10 x11 x12 = l7_1_v1 n1 Γ n1 x0 r1 r2 0 r3 r4 x5 x6 s7 r8 r9
  r10 x11 x12 := (Jn_step ..).trans (by kernel_rfl)
theorem q7_5_eq (Γ : Bool → SemL) (n1 : Nat) (n2 : Nat) (x0 : Int) (r1 : List (List D)) (x2 : Int) (r3 : List (List D)) (r4 : List (List D)) (x5 : Int) (x6 : Int) (s7 : ByteArray) (r8 : List
  (List D)) (r9 : List (List D)) (r10 : List (List D)) (x11 : Int) (x12 : Int) : q7_5 Γ n1 n2 x0 r1 x2 r3 r4 x5 x6 s7 r8 r9 r10 x11 x12 = bif decide (0 ≤ x2) && decide (x2 < Int.ofNat
  (List.length r4)) then bif true && true && true && Nat.ble ((List.length r1 + List.length [[List.getD (List.getD r4 (Int.toNat x2) []) 4 D.junk, List.getD (List.getD r4 (Int.toNat x2) []) 5
  D.junk, List.getD (List.getD r4 (Int.toNat x2) []) 6 D.junk, List.getD (List.getD r4 (Int.toNat x2) []) 7 D.junk, List.getD (List.getD r4 (Int.toNat x2) []) 8 D.junk, List.getD (List.getD
  r4 (Int.toNat x2) []) 9 D.junk, List.getD (List.getD r4 (Int.toNat x2) []) 10 D.junk, List.getD (List.getD r4 (Int.toNat x2) []) 11 D.junk]]) * 121) 140737488355328 then bif decide (0 ≤ x2)
  && decide (x2 < Int.ofNat (List.length r4)) then l7_2 n1 Γ n1 n2 x0 (r1 ++ [[List.getD (List.getD r4 (Int.toNat x2) []) 4 D.junk, List.getD (List.getD r4 (Int.toNat x2) []) 5 D.junk,
  List.getD (List.getD r4 (Int.toNat x2) []) 6 D.junk, List.getD (List.getD r4 (Int.toNat x2) []) 7 D.junk, List.getD (List.getD r4 (Int.toNat x2) []) 8 D.junk, List.getD (List.getD r4
  (Int.toNat x2) []) 9 D.junk, List.getD (List.getD r4 (Int.toNat x2) []) 10 D.junk, List.getD (List.getD r4 (Int.toNat x2) []) 11 D.junk]]) [[List.getD (List.getD r4 (Int.toNat x2) []) 2
  D.junk, List.getD (List.getD r4 (Int.toNat x2) []) 3 D.junk]] x2 0 r3 r4 x5 x6 s7 r8 r9 r10 x11 x12 else none else none else none := (Jn_step ..).trans (by kernel_rfl)
theorem e22_eq (Γ : Bool → SemL) (n1 : Nat) (x0 : Int) : e22 Γ n1 x0 = l22_0 n1 Γ n1 x0 0 0 := (run_step ..).trans (by kernel_rfl)
theorem q34_1_eq (Γ : Bool → SemL) (n1 : Nat) (n2 : Nat) (x0 : Int) (x1 : Int) (x2 : Int) (x3 : Int) (x4 : Int) (s5 : ByteArray) (r6 : List (List D)) (r7 : List (List D)) (r8 : List (List D))
  (x9 : Int) (x10 : Int) : q34_1 Γ n1 n2 x0 x1 x2 x3 x4 s5 r6 r7 r8 x9 x10 = l34_0 n1 Γ n2 x0 x1 (IntKind.wrap IntKind.i64 (x2 + 1)) x3 x4 s5 r6 r7 r8 x9 x10 := (Jn_step ..).trans (by
  kernel_rfl)
theorem l7_1_v1_eq (n0 : Nat) (Γ : Bool → SemL) (n2 : Nat) (x0 : Int) (r1 : List (List D)) (r2 : List (List D)) (x3 : Int) (r4 : List (List D)) (r5 : List (List D)) (x6 : Int) (x7 : Int) (s8
  : ByteArray) (r9 : List (List D)) (r10 : List (List D)) (r11 : List (List D)) (x12 : Int) (x13 : Int) : l7_1_v1 (n0 + 1) Γ n2 x0 r1 r2 x3 r4 r5 x6 x7 s8 r9 r10 r11 x12 x13 = bif decide (x3
  < Int.ofNat (List.length r5)) then q7_4_v1 Γ n0 n2 x0 r1 r2 x3 r4 r5 x6 x7 s8 r9 r10 r11 x12 x13 else q7_9_v1 Γ n2 x0 r1 r2 := (loop_step ..).trans (by kernel_rfl)
theorem l7_2_eq (n0 : Nat) (Γ : Bool → SemL) (n2 : Nat) (n3 : Nat) (x0 : Int) (r1 : List (List D)) (r2 : List (List D)) (x3 : Int) (x4 : Int) (r5 : List (List D)) (r6 : List (List D)) (x7 :
  Int) (x8 : Int) (s9 : ByteArray) (r10 : List (List D)) (r11 : List (List D)) (r12 : List (List D)) (x13 : Int) (x14 : Int) : l7_2 (n0 + 1) Γ n2 n3 x0 r1 r2 x3 x4 r5 r6 x7 x8 s9 r10 r11 r12
  x13 x14 = bif decide (0 ≤ x3) && decide (x3 < Int.ofNat (List.length r6)) then bif D.isL (List.getD (List.getD r6 (Int.toNat x3) []) 1 D.junk) then bif decide (x4 < Int.ofNat (List.length
  (D.rows (List.getD (List.getD r6 (Int.toNat x3) []) 1 D.junk)))) then q7_6 Γ n0 n2 n3 x0 r1 r2 x3 x4 r5 r6 x7 x8 s9 r10 r11 r12 x13 x14 else q7_8 Γ n2 n3 x0 r1 r2 x3 r5 r6 x7 x8 s9 r10 r11
  r12 x13 x14 else none else none := (loop_step ..).trans (by kernel_rfl)
theorem l22_0_eq (n0 : Nat) (Γ : Bool → SemL) (n2 : Nat) (x0 : Int) (x1 : Int) (x2 : Int) : l22_0 (n0 + 1) Γ n2 x0 x1 x2 = bif decide (x2 < 0) then q22_0 Γ n0 n2 x0 x1 x2 else q22_2 Γ n2 x0
  x1 := (loop_step ..).trans (by kernel_rfl)
theorem q7_4_v1_eq (Γ : Bool → SemL) (n1 : Nat) (n2 : Nat) (x0 : Int) (r1 : List (List D)) (r2 : List (List D)) (x3 : Int) (r4 : List (List D)) (r5 : List (List D)) (x6 : Int) (x7 : Int) (s8
  : ByteArray) (r9 : List (List D)) (r10 : List (List D)) (r11 : List (List D)) (x12 : Int) (x13 : Int) : q7_4_v1 Γ n1 n2 x0 r1 r2 x3 r4 r5 x6 x7 s8 r9 r10 r11 x12 x13 = bif decide (0 ≤ x3)
  && decide (x3 < Int.ofNat (List.length r5)) then bif D.isL (List.getD (List.getD r5 (Int.toNat x3) []) 1 D.junk) then bif decide (Int.ofNat (List.length (D.rows (List.getD (List.getD r5
  (Int.toNat x3) []) 1 D.junk))) > 100) then some (Out.mk true (V.one (X.d (D.bool false))) D.junk [] 0) else q7_5_v1 Γ n1 n2 x0 r1 r2 x3 r4 r5 x6 x7 s8 r9 r10 r11 x12 x13 else none else none
  := (Jn_step ..).trans (by kernel_rfl)
theorem q7_9_v1_eq (Γ : Bool → SemL) (n1 : Nat) (x0 : Int) (r1 : List (List D)) (r2 : List (List D)) : q7_9_v1 Γ n1 x0 r1 r2 = r_oB (Γ false 13 [V.one (X.d (D.int IntKind.i64 x0)), V.one (X.d
  (D.list 8 r1))] []) (fun c0_ => bif c0_ then r_oB (Γ false 22 [V.one (X.d (D.int IntKind.i64 x0)), V.one (X.d (D.list 2 r2))] []) (fun c2_ => some (Out.mk true (V.one (X.d (D.bool c2_)))
  D.junk [] 0)) fun d3_ => some (Out.mk false V.junk d3_ [] 0) else some (Out.mk true (V.one (X.d (D.bool false))) D.junk [] 0)) fun d1_ => some (Out.mk false V.junk d1_ [] 0) := (Jn_step
  ..).trans (by kernel_rfl)
theorem q7_6_eq (Γ : Bool → SemL) (n1 : Nat) (n2 : Nat) (n3 : Nat) (x0 : Int) (r1 : List (List D)) (r2 : List (List D)) (x3 : Int) (x4 : Int) (r5 : List (List D)) (r6 : List (List D)) (x7 :
  Int) (x8 : Int) (s9 : ByteArray) (r10 : List (List D)) (r11 : List (List D)) (r12 : List (List D)) (x13 : Int) (x14 : Int) : q7_6 Γ n1 n2 n3 x0 r1 r2 x3 x4 r5 r6 x7 x8 s9 r10 r11 r12 x13
  x14 = bif decide (0 ≤ x3) && decide (x3 < Int.ofNat (List.length r6)) then bif D.isList 5 (List.getD (List.getD r6 (Int.toNat x3) []) 1 D.junk) then bif decide (0 ≤ x4) && decide (x4 <
  Int.ofNat (List.length (D.rows (List.getD (List.getD r6 (Int.toNat x3) []) 1 D.junk)))) then bif true && true && true && Nat.ble ((List.length r2 + List.length [[List.getD (List.getD
  (D.rows (List.getD (List.getD r6 (Int.toNat x3) []) 1 D.junk)) (Int.toNat x4) []) 1 D.junk, List.getD (List.getD (D.rows (List.getD (List.getD r6 (Int.toNat x3) []) 1 D.junk)) (Int.toNat
  x4) []) 2 D.junk]]) * 33) 140737488355328 then q7_7 Γ n1 n2 n3 x0 r1 (r2 ++ [[List.getD (List.getD (D.rows (List.getD (List.getD r6 (Int.toNat x3) []) 1 D.junk)) (Int.toNat x4) []) 1
  D.junk, List.getD (List.getD (D.rows (List.getD (List.getD r6 (Int.toNat x3) []) 1 D.junk)) (Int.toNat x4) []) 2 D.junk]]) x3 x4 r5 r6 x7 x8 s9 r10 r11 r12 x13 x14 else none else none else
  none else none := (Jn_step ..).trans (by kernel_rfl)
theorem q7_8_eq (Γ : Bool → SemL) (n1 : Nat) (n2 : Nat) (x0 : Int) (r1 : List (List D)) (r2 : List (List D)) (x3 : Int) (r4 : List (List D)) (r5 : List (List D)) (x6 : Int) (x7 : Int) (s8 :
  ByteArray) (r9 : List (List D)) (r10 : List (List D)) (r11 : List (List D)) (x12 : Int) (x13 : Int) : q7_8 Γ n1 n2 x0 r1 r2 x3 r4 r5 x6 x7 s8 r9 r10 r11 x12 x13 = l7_1_v1 n1 Γ n2 x0 r1 r2
  (IntKind.wrap IntKind.i64 (x3 + 1)) r4 r5 x6 x7 s8 r9 r10 r11 x12 x13 := (Jn_step ..).trans (by kernel_rfl)
theorem q22_2_eq (Γ : Bool → SemL) (n1 : Nat) (x0 : Int) (x1 : Int) : q22_2 Γ n1 x0 x1 = some (Out.mk true (V.one (X.d (D.bool (decide (x1 ≤ x0))))) D.junk [] 0) := (Jn_step ..).trans (by
  kernel_rfl)
theorem q7_5_v1_eq (Γ : Bool → SemL) (n1 : Nat) (n2 : Nat) (x0 : Int) (r1 : List (List D)) (r2 : List (List D)) (x3 : Int) (r4 : List (List D)) (r5 : List (List D)) (x6 : Int) (x7 : Int) (s8
  : ByteArray) (r9 : List (List D)) (r10 : List (List D)) (r11 : List (List D)) (x12 : Int) (x13 : Int) : q7_5_v1 Γ n1 n2 x0 r1 r2 x3 r4 r5 x6 x7 s8 r9 r10 r11 x12 x13 = bif decide (0 ≤ x3)
  && decide (x3 < Int.ofNat (List.length r5)) then bif true && true && true && Nat.ble ((List.length r1 + List.length [[List.getD (List.getD r5 (Int.toNat x3) []) 4 D.junk, List.getD
  (List.getD r5 (Int.toNat x3) []) 5 D.junk, List.getD (List.getD r5 (Int.toNat x3) []) 6 D.junk, List.getD (List.getD r5 (Int.toNat x3) []) 7 D.junk, List.getD (List.getD r5 (Int.toNat x3)
  []) 8 D.junk, List.getD (List.getD r5 (Int.toNat x3) []) 9 D.junk, List.getD (List.getD r5 (Int.toNat x3) []) 10 D.junk, List.getD (List.getD r5 (Int.toNat x3) []) 11 D.junk]]) * 121)
  140737488355328 then bif decide (0 ≤ x3) && decide (x3 < Int.ofNat (List.length r5)) then bif true && true && true && Nat.ble ((List.length r2 + List.length [[List.getD (List.getD r5
  (Int.toNat x3) []) 2 D.junk, List.getD (List.getD r5 (Int.toNat x3) []) 3 D.junk]]) * 33) 140737488355328 then l7_2 n1 Γ n1 n2 x0 (r1 ++ [[List.getD (List.getD r5 (Int.toNat x3) []) 4
  D.junk, List.getD (List.getD r5 (Int.toNat x3) []) 5 D.junk, List.getD (List.getD r5 (Int.toNat x3) []) 6 D.junk, List.getD (List.getD r5 (Int.toNat x3) []) 7 D.junk, List.getD (List.getD
  r5 (Int.toNat x3) []) 8 D.junk, List.getD (List.getD r5 (Int.toNat x3) []) 9 D.junk, List.getD (List.getD r5 (Int.toNat x3) []) 10 D.junk, List.getD (List.getD r5 (Int.toNat x3) []) 11
  D.junk]]) (r2 ++ [[List.getD (List.getD r5 (Int.toNat x3) []) 2 D.junk, List.getD (List.getD r5 (Int.toNat x3) []) 3 D.junk]]) x3 0 r4 r5 x6 x7 s8 r9 r10 r11 x12 x13 else none else none
  else none else none := (Jn_step ..).trans (by kernel_rfl)
theorem e22_v1_eq (Γ : Bool → SemL) (n1 : Nat) (x0 : Int) (r1 : List (List D)) : e22_v1 Γ n1 x0 r1 = l22_0_v1 n1 Γ n1 x0 r1 0 0 := (run_step ..).trans (by kernel_rfl)
theorem q7_7_eq (Γ : Bool → SemL) (n1 : Nat) (n2 : Nat) (n3 : Nat) (x0 : Int) (r1 : List (List D)) (r2 : List (List D)) (x3 : Int) (x4 : Int) (r5 : List (List D)) (r6 : List (List D)) (x7 :
  Int) (x8 : Int) (s9 : ByteArray) (r10 : List (List D)) (r11 : List (List D)) (r12 : List (List D)) (x13 : Int) (x14 : Int) : q7_7 Γ n1 n2 n3 x0 r1 r2 x3 x4 r5 r6 x7 x8 s9 r10 r11 r12 x13
  x14 = l7_2 n1 Γ n2 n3 x0 r1 r2 x3 (IntKind.wrap IntKind.i64 (x4 + 1)) r5 r6 x7 x8 s9 r10 r11 r12 x13 x14 := (Jn_step ..).trans (by kernel_rfl)
theorem l22_0_v1_eq (n0 : Nat) (Γ : Bool → SemL) (n2 : Nat) (x0 : Int) (r1 : List (List D)) (x2 : Int) (x3 : Int) : l22_0_v1 (n0 + 1) Γ n2 x0 r1 x2 x3 = bif decide (x3 < Int.ofNat
  (List.length r1)) then q22_0_v1 Γ n0 n2 x0 r1 x2 x3 else q22_2 Γ n2 x0 x2 := (loop_step ..).trans (by kernel_rfl)
theorem q22_0_v1_eq (Γ : Bool → SemL) (n1 : Nat) (n2 : Nat) (x0 : Int) (r1 : List (List D)) (x2 : Int) (x3 : Int) : q22_0_v1 Γ n1 n2 x0 r1 x2 x3 = bif decide (0 ≤ x3) && decide (x3 <
  Int.ofNat (List.length r1)) then r_oI (Γ false 47 [V.agg [X.d (List.getD (List.getD r1 (Int.toNat x3) []) 0 D.junk), X.d (List.getD (List.getD r1 (Int.toNat x3) []) 1 D.junk)], V.one (X.d
  (D.int IntKind.i64 x2)), V.one (X.d (D.int IntKind.i64 x0))] []) (fun i0_ => q22_1_v1 Γ n1 n2 x0 r1 i0_ x3) fun d1_ => some (Out.mk false V.junk d1_ [] 0) else none := (Jn_step ..).trans
  (by kernel_rfl)
theorem e47_v1_eq (Γ : Bool → SemL) (n1 : Nat) (x0 : Int) (r1 : List (List D)) (x2 : Int) (x3 : Int) : e47_v1 Γ n1 x0 r1 x2 x3 = l47_0_v1 n1 Γ n1 (IntKind.wrap IntKind.i64 (x2 + 1)) x3 0 x0
  r1 := (run_step ..).trans (by kernel_rfl)
theorem q22_1_v1_eq (Γ : Bool → SemL) (n1 : Nat) (n2 : Nat) (x0 : Int) (r1 : List (List D)) (x2 : Int) (x3 : Int) : q22_1_v1 Γ n1 n2 x0 r1 x2 x3 = l22_0_v1 n1 Γ n2 x0 r1 x2 (IntKind.wrap
  IntKind.i64 (x3 + 1)) := (Jn_step ..).trans (by kernel_rfl)
theorem l47_0_v1_eq (n0 : Nat) (Γ : Bool → SemL) (n2 : Nat) (x0 : Int) (x1 : Int) (x2 : Int) (x3 : Int) (r4 : List (List D)) : l47_0_v1 (n0 + 1) Γ n2 x0 x1 x2 x3 r4 = bif decide (x2 <
  Int.ofNat (List.length r4)) then bif decide (x0 ≤ x1) then q47_0 Γ n0 n2 x0 x1 x2 x3 r4 else q47_2 Γ n2 x0 else q47_2 Γ n2 x0 := (loop_step ..).trans (by kernel_rfl)
theorem q47_0_eq (Γ : Bool → SemL) (n1 : Nat) (n2 : Nat) (x0 : Int) (x1 : Int) (x2 : Int) (x3 : Int) (r4 : List (List D)) : q47_0 Γ n1 n2 x0 x1 x2 x3 r4 = bif decide (0 ≤ x2) && decide (x2 <
  Int.ofNat (List.length r4)) then r_oI (Γ false 47 [V.agg [X.d (List.getD (List.getD r4 (Int.toNat x2) []) 0 D.junk), X.d (List.getD (List.getD r4 (Int.toNat x2) []) 1 D.junk)], V.one (X.d
  (D.int IntKind.i64 x0)), V.one (X.d (D.int IntKind.i64 x1))] []) (fun i0_ => q47_1 Γ n1 n2 i0_ x1 x2 x3 r4) fun d1_ => some (Out.mk false V.junk d1_ [] 0) else none := (Jn_step ..).trans
  (by kernel_rfl)
theorem q47_2_eq (Γ : Bool → SemL) (n1 : Nat) (x0 : Int) : q47_2 Γ n1 x0 = some (Out.mk true (V.one (X.d (D.int IntKind.i64 x0))) D.junk [] 0) := (Jn_step ..).trans (by kernel_rfl)
theorem q47_1_eq (Γ : Bool → SemL) (n1 : Nat) (n2 : Nat) (x0 : Int) (x1 : Int) (x2 : Int) (x3 : Int) (r4 : List (List D)) : q47_1 Γ n1 n2 x0 x1 x2 x3 r4 = l47_0_v1 n1 Γ n2 x0 x1 (IntKind.wrap
  IntKind.i64 (x2 + 1)) x3 r4 := (Jn_step ..).trans (by kernel_rfl)
theorem call7 (x0 : Int) (r1 : List (List D)) (r2 : List (List D)) (x3 : Int) (x4 : Int) (s5 : ByteArray) (r6 : List (List D)) (r7 : List (List D)) (r8 : List (List D)) (x9 : Int) (x10 : Int)
  {o : Out} (h : Ev (fun _ k n => e7 (Ak k) n x0 r1 r2 x3 x4 s5 r6 r7 r8 x9 x10) o) : Cal 7 [V.one (X.d (D.int IntKind.i64 x0)), V.agg [X.d (D.list 5 r1), X.d (D.list 14 r2), X.d (D.int
  IntKind.i64 x3), X.d (D.int IntKind.i64 x4), X.d (D.str s5), X.d (D.list 1 r6), X.d (D.list 1 r7), X.d (D.list 8 r8), X.d (D.int IntKind.i64 x9), X.d (D.int IntKind.i64 x10)]] [] o :=
  Ev.call (E := fun Γ n1 => e7 Γ n1 x0 r1 r2 x3 x4 s5 r6 r7 r8 x9 x10) (fun k => call_step (by kernel_rfl) rfl) h
theorem call13 (x0 : Int) (r1 : List (List D)) {o : Out} (h : Ev (fun _ k n => e13 (Ak k) n x0 r1) o) : Cal 13 [V.one (X.d (D.int IntKind.i64 x0)), V.one (X.d (D.list 8 r1))] [] o := Ev.call
  (E := fun Γ n1 => e13 Γ n1 x0 r1) (fun k => call_step (by kernel_rfl) rfl) h
theorem call34 (x0 : Int) (x1 : Int) (s2 : ByteArray) (r3 : List (List D)) (r4 : List (List D)) (r5 : List (List D)) (x6 : Int) (x7 : Int) (x8 : Int) (x9 : Int) {o : Out} (h : Ev (fun _ k n
  => e34 (Ak k) n x0 x1 s2 r3 r4 r5 x6 x7 x8 x9) o) : Cal 34 [V.agg [X.d (D.int IntKind.i64 x0), X.d (D.int IntKind.i64 x1), X.d (D.str s2), X.d (D.list 1 r3), X.d (D.list 1 r4), X.d (D.list
  8 r5), X.d (D.int IntKind.i64 x6), X.d (D.int IntKind.i64 x7)], V.one (X.d (D.int IntKind.i64 x8)), V.one (X.d (D.int IntKind.i64 x9))] [] o := Ev.call (E := fun Γ n1 => e34 Γ n1 x0 x1 s2
  r3 r4 r5 x6 x7 x8 x9) (fun k => call_step (by kernel_rfl) rfl) h
theorem call22 (x0 : Int) {o : Out} (h : Ev (fun _ k n => e22 (Ak k) n x0) o) : Cal 22 [V.one (X.d (D.int IntKind.i64 x0)), V.one (X.nilL 2)] [] o := Ev.call (E := fun Γ n1 => e22 Γ n1 x0)
  (fun k => call_step (by kernel_rfl) rfl) h
theorem call22_v1 (x0 : Int) (r1 : List (List D)) {o : Out} (h : Ev (fun _ k n => e22_v1 (Ak k) n x0 r1) o) : Cal 22 [V.one (X.d (D.int IntKind.i64 x0)), V.one (X.d (D.list 2 r1))] [] o :=
  Ev.call (E := fun Γ n1 => e22_v1 Γ n1 x0 r1) (fun k => call_step (by kernel_rfl) rfl) h
theorem call47_v1 (x0 : Int) (r1 : List (List D)) (x2 : Int) (x3 : Int) {o : Out} (h : Ev (fun _ k n => e47_v1 (Ak k) n x0 r1 x2 x3) o) : Cal 47 [V.agg [X.d (D.int IntKind.i64 x0), X.d
  (D.list 2 r1)], V.one (X.d (D.int IntKind.i64 x2)), V.one (X.d (D.int IntKind.i64 x3))] [] o := Ev.call (E := fun Γ n1 => e47_v1 Γ n1 x0 r1 x2 x3) (fun k => call_step (by kernel_rfl) rfl) h
end Go.Proofs.YtaphnbaiamnfpaaDoor.Ps
