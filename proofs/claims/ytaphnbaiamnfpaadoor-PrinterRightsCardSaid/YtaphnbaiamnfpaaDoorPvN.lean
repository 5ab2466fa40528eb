/- What the pieces of the functions do, as functions of their data. Printed by pack4.py. -/
import Derived.Test.YtaphnbaiamnfpaaDoorPv0
namespace Go.Proofs.YtaphnbaiamnfpaaDoor.Ps
set_option maxHeartbeats 0
set_option maxRecDepth 100000
set_option linter.unusedVariables false
open Go Go.RowKit
noncomputable def e9 (Γ : Bool → SemL) (n1 : Nat) (r0 : List (List D)) (r1 : List (List D)) (x2 : Int) (x3 : Int) (s4 : ByteArray) (r5 : List (List D)) (r6 : List (List D)) (r7 : List (List
  D)) (x8 : Int) (x9 : Int) : Option Out := runF Γ shp rc false (shp 9) sf9 n1 [V.agg [X.d (D.list 5 r0), X.d (D.list 14 r1), X.d (D.int IntKind.i64 x2), X.d (D.int IntKind.i64 x3), X.d
  (D.str s4), X.d (D.list 1 r5), X.d (D.list 1 r6), X.d (D.list 8 r7), X.d (D.int IntKind.i64 x8), X.d (D.int IntKind.i64 x9)]] []
noncomputable def e11 (Γ : Bool → SemL) (n1 : Nat) (x0 : Int) (x1 : Int) (s2 : ByteArray) (r3 : List (List D)) (r4 : List (List D)) (r5 : List (List D)) (x6 : Int) (x7 : Int) : Option Out :=
  runF Γ shp rc false (shp 11) sf11 n1 [V.agg [X.d (D.int IntKind.i64 x0), X.d (D.int IntKind.i64 x1), X.d (D.str s2), X.d (D.list 1 r3), X.d (D.list 1 r4), X.d (D.list 8 r5), X.d (D.int
  IntKind.i64 x6), X.d (D.int IntKind.i64 x7)]] []
noncomputable def l9_0 (n0 : Nat) (Γ : Bool → SemL) (n2 : Nat) (r0 : List (List D)) (x1 : Int) (x2 : Int) (r3 : List (List D)) (r4 : List (List D)) (x5 : Int) (x6 : Int) (s7 : ByteArray) (r8
  : List (List D)) (r9 : List (List D)) (r10 : List (List D)) (x11 : Int) (x12 : Int) : Option Out := loopK (Γ false) shp n0 [1, 10, 11, 12] lb9_0 (St.mk [(1, V.one (X.ptr 0 0)), (10, V.one
  (X.d (D.list 5 r0))), (11, V.one (X.d (D.int IntKind.i64 x1))), (12, V.one (X.d (D.int IntKind.i64 x2)))] [(0, Blk.mk [Lf.lst 5, Lf.lst 14, Lf.int IntKind.i64, Lf.int IntKind.i64, Lf.str,
  Lf.lst 1, Lf.lst 1, Lf.lst 8, Lf.int IntKind.i64, Lf.int IntKind.i64] [X.d (D.list 5 r3), X.d (D.list 14 r4), X.d (D.int IntKind.i64 x5), X.d (D.int IntKind.i64 x6), X.d (D.str s7), X.d
  (D.list 1 r8), X.d (D.list 1 r9), X.d (D.list 8 r10), X.d (D.int IntKind.i64 x11), X.d (D.int IntKind.i64 x12)])] [] 1 0 0 []) (kBlk 0 (kSeq (some [1]) (fun s K => Jn (Γ false) shp n2 j9_2
  s K) (finK (Γ true) rc false (shp 9) (SFunc.results sf9) 0)))
noncomputable def e32 (Γ : Bool → SemL) (n1 : Nat) (x0 : Int) (x1 : Int) (s2 : ByteArray) (r3 : List (List D)) (r4 : List (List D)) (r5 : List (List D)) (x6 : Int) (x7 : Int) (x8 : Int) :
  Option Out := runF Γ shp rc false (shp 32) sf32 n1 [V.agg [X.d (D.int IntKind.i64 x0), X.d (D.int IntKind.i64 x1), X.d (D.str s2), X.d (D.list 1 r3), X.d (D.list 1 r4), X.d (D.list 8 r5),
  X.d (D.int IntKind.i64 x6), X.d (D.int IntKind.i64 x7)], V.one (X.d (D.int IntKind.i64 x8))] []
noncomputable def q9_0 (Γ : Bool → SemL) (n1 : Nat) (n2 : Nat) (r0 : List (List D)) (x1 : Int) (x2 : Int) (r3 : List (List D)) (r4 : List (List D)) (x5 : Int) (x6 : Int) (s7 : ByteArray) (r8
  : List (List D)) (r9 : List (List D)) (r10 : List (List D)) (x11 : Int) (x12 : Int) : Option Out := Jn (Γ false) shp n1 j9_0 (St.mk [(1, V.one (X.ptr 0 0)), (10, V.one (X.d (D.list 5 r0))),
  (11, V.one (X.d (D.int IntKind.i64 x1))), (12, V.one (X.d (D.int IntKind.i64 x2)))] [(0, Blk.mk [Lf.lst 5, Lf.lst 14, Lf.int IntKind.i64, Lf.int IntKind.i64, Lf.str, Lf.lst 1, Lf.lst 1,
  Lf.lst 8, Lf.int IntKind.i64, Lf.int IntKind.i64] [X.d (D.list 5 r3), X.d (D.list 14 r4), X.d (D.int IntKind.i64 x5), X.d (D.int IntKind.i64 x6), X.d (D.str s7), X.d (D.list 1 r8), X.d
  (D.list 1 r9), X.d (D.list 8 r10), X.d (D.int IntKind.i64 x11), X.d (D.int IntKind.i64 x12)])] [] 1 0 0 []) (kLoop (loopK (Γ false) shp n1) [1, 10, 11, 12] lb9_0 (kBlk 0 (kSeq (some [1])
  (fun s K => Jn (Γ false) shp n2 j9_2 s K) (finK (Γ true) rc false (shp 9) (SFunc.results sf9) 0))))
noncomputable def q9_2 (Γ : Bool → SemL) (n1 : Nat) (r0 : List (List D)) (r1 : List (List D)) (x2 : Int) (x3 : Int) (s4 : ByteArray) (r5 : List (List D)) (r6 : List (List D)) (r7 : List (List
  D)) (x8 : Int) (x9 : Int) : Option Out := Jn (Γ false) shp n1 j9_2 (St.mk [(1, V.one (X.ptr 0 0))] [(0, Blk.mk [Lf.lst 5, Lf.lst 14, Lf.int IntKind.i64, Lf.int IntKind.i64, Lf.str, Lf.lst
  1, Lf.lst 1, Lf.lst 8, Lf.int IntKind.i64, Lf.int IntKind.i64] [X.d (D.list 5 r0), X.d (D.list 14 r1), X.d (D.int IntKind.i64 x2), X.d (D.int IntKind.i64 x3), X.d (D.str s4), X.d (D.list 1
  r5), X.d (D.list 1 r6), X.d (D.list 8 r7), X.d (D.int IntKind.i64 x8), X.d (D.int IntKind.i64 x9)])] [] 1 0 0 []) (finK (Γ true) rc false (shp 9) (SFunc.results sf9) 0)
noncomputable def e55 (Γ : Bool → SemL) (n1 : Nat) (x0 : Int) (x1 : Int) (s2 : ByteArray) (r3 : List (List D)) (r4 : List (List D)) (r5 : List (List D)) (x6 : Int) (x7 : Int) : Option Out :=
  runF Γ shp rc false (shp 55) sf55 n1 [V.agg [X.d (D.int IntKind.i64 x0), X.d (D.int IntKind.i64 x1), X.d (D.str s2), X.d (D.list 1 r3), X.d (D.list 1 r4), X.d (D.list 8 r5), X.d (D.int
  IntKind.i64 x6), X.d (D.int IntKind.i64 x7)]] []
noncomputable def q32_0 (Γ : Bool → SemL) (n1 : Nat) (x0 : Int) (x1 : Int) (x2 : Int) (s3 : ByteArray) (r4 : List (List D)) (r5 : List (List D)) (r6 : List (List D)) (x7 : Int) (x8 : Int) :
  Option Out := Jn (Γ false) shp n1 j32_0 (St.mk [(1, V.one (X.d (D.int IntKind.i64 x0))), (2, V.one (X.ptr 0 0))] [(0, Blk.mk [Lf.int IntKind.i64, Lf.int IntKind.i64, Lf.str, Lf.lst 1,
  Lf.lst 1, Lf.lst 8, Lf.int IntKind.i64, Lf.int IntKind.i64] [X.d (D.int IntKind.i64 x1), X.d (D.int IntKind.i64 x2), X.d (D.str s3), X.d (D.list 1 r4), X.d (D.list 1 r5), X.d (D.list 8 r6),
  X.d (D.int IntKind.i64 x7), X.d (D.int IntKind.i64 x8)])] [] 1 0 0 []) (finK (Γ true) rc false (shp 32) (SFunc.results sf32) 0)
noncomputable def e26 (Γ : Bool → SemL) (n1 : Nat) (s0 : ByteArray) (x1 : Int) (r2 : List (List D)) (x3 : Int) (x4 : Int) : Option Out := runF Γ shp rc false (shp 26) sf26 n1 [V.agg [X.d
  (D.str s0), X.d (D.int IntKind.i64 x1), X.d (D.list 2 r2), X.d (D.int IntKind.i64 x3), X.d (D.int IntKind.i64 x4)]] []
noncomputable def q9_1 (Γ : Bool → SemL) (n1 : Nat) (n2 : Nat) (r0 : List (List D)) (x1 : Int) (x2 : Int) (r3 : List (List D)) (r4 : List (List D)) (x5 : Int) (x6 : Int) (s7 : ByteArray) (r8
  : List (List D)) (r9 : List (List D)) (r10 : List (List D)) (x11 : Int) (x12 : Int) : Option Out := Jn (Γ false) shp n1 j9_1 (St.mk [(1, V.one (X.ptr 0 0)), (10, V.one (X.d (D.list 5 r0))),
  (11, V.one (X.d (D.int IntKind.i64 x1))), (12, V.one (X.d (D.int IntKind.i64 x2)))] [(0, Blk.mk [Lf.lst 5, Lf.lst 14, Lf.int IntKind.i64, Lf.int IntKind.i64, Lf.str, Lf.lst 1, Lf.lst 1,
  Lf.lst 8, Lf.int IntKind.i64, Lf.int IntKind.i64] [X.d (D.list 5 r3), X.d (D.list 14 r4), X.d (D.int IntKind.i64 x5), X.d (D.int IntKind.i64 x6), X.d (D.str s7), X.d (D.list 1 r8), X.d
  (D.list 1 r9), X.d (D.list 8 r10), X.d (D.int IntKind.i64 x11), X.d (D.int IntKind.i64 x12)])] [] 1 0 0 []) (kLoop (loopK (Γ false) shp n1) [1, 10, 11, 12] lb9_0 (kBlk 0 (kSeq (some [1])
  (fun s K => Jn (Γ false) shp n2 j9_2 s K) (finK (Γ true) rc false (shp 9) (SFunc.results sf9) 0))))
noncomputable def l9_1 (n0 : Nat) (Γ : Bool → SemL) (n2 : Nat) (r0 : List (List D)) (x1 : Int) (x2 : Int) (r3 : List (List D)) (r4 : List (List D)) (x5 : Int) (x6 : Int) (s7 : ByteArray) (r8
  : List (List D)) (r9 : List (List D)) (r10 : List (List D)) (x11 : Int) (x12 : Int) : Option Out := loopK (Γ false) shp n0 [1, 21, 22, 23] lb9_1 (St.mk [(1, V.one (X.ptr 0 0)), (21, V.one
  (X.d (D.list 14 r0))), (22, V.one (X.d (D.int IntKind.i64 x1))), (23, V.one (X.d (D.int IntKind.i64 x2)))] [(0, Blk.mk [Lf.lst 5, Lf.lst 14, Lf.int IntKind.i64, Lf.int IntKind.i64, Lf.str,
  Lf.lst 1, Lf.lst 1, Lf.lst 8, Lf.int IntKind.i64, Lf.int IntKind.i64] [X.d (D.list 5 r3), X.d (D.list 14 r4), X.d (D.int IntKind.i64 x5), X.d (D.int IntKind.i64 x6), X.d (D.str s7), X.d
  (D.list 1 r8), X.d (D.list 1 r9), X.d (D.list 8 r10), X.d (D.int IntKind.i64 x11), X.d (D.int IntKind.i64 x12)])] [] 1 0 0 []) (kBlk 2 (kSeq (some [1]) (fun s K => Jn (Γ false) shp n2 j9_8
  s K) (finK (Γ true) rc false (shp 9) (SFunc.results sf9) 0)))
noncomputable def q55_1 (Γ : Bool → SemL) (n1 : Nat) (x0 : Int) (x1 : Int) (x2 : Int) (b3 : Bool) (b4 : Bool) (x5 : Int) (x6 : Int) (s7 : ByteArray) (r8 : List (List D)) (r9 : List (List D))
  (r10 : List (List D)) (x11 : Int) (x12 : Int) : Option Out := Jn (Γ false) shp n1 j55_1 (St.mk [(1, V.one (X.ptr 0 0)), (3, V.one (X.d (D.int IntKind.i64 x0))), (4, V.one (X.d (D.int
  IntKind.i64 x1))), (5, V.one (X.d (D.int IntKind.i64 x2))), (6, V.one (X.d (D.bool b3))), (7, V.one (X.d (D.bool b4)))] [(0, Blk.mk [Lf.int IntKind.i64, Lf.int IntKind.i64, Lf.str, Lf.lst
  1, Lf.lst 1, Lf.lst 8, Lf.int IntKind.i64, Lf.int IntKind.i64] [X.d (D.int IntKind.i64 x5), X.d (D.int IntKind.i64 x6), X.d (D.str s7), X.d (D.list 1 r8), X.d (D.list 1 r9), X.d (D.list 8
  r10), X.d (D.int IntKind.i64 x11), X.d (D.int IntKind.i64 x12)])] [] 1 0 0 []) (finK (Γ true) rc false (shp 55) (SFunc.results sf55) 0)
noncomputable def e27 (Γ : Bool → SemL) (n1 : Nat) (s0 : ByteArray) : Option Out := runF Γ shp rc false (shp 27) sf27 n1 [V.one (X.d (D.str s0))] []
noncomputable def e89 (Γ : Bool → SemL) (n1 : Nat) (s0 : ByteArray) : Option Out := runF Γ shp rc false (shp 89) sf89 n1 [V.one (X.d (D.str s0))] []
noncomputable def q55_0 (Γ : Bool → SemL) (n1 : Nat) (x0 : Int) (x1 : Int) (b2 : Bool) (b3 : Bool) (b4 : Bool) (x5 : Int) (x6 : Int) (s7 : ByteArray) (r8 : List (List D)) (r9 : List (List D))
  (r10 : List (List D)) (x11 : Int) (x12 : Int) : Option Out := Jn (Γ false) shp n1 j55_0 (St.mk [(1, V.one (X.ptr 0 0)), (3, V.one (X.d (D.int IntKind.i64 x0))), (5, V.one (X.d (D.int
  IntKind.i64 x1))), (6, V.one (X.d (D.bool b2))), (7, V.one (X.d (D.bool b3))), (92, V.one (X.d (D.bool b4)))] [(0, Blk.mk [Lf.int IntKind.i64, Lf.int IntKind.i64, Lf.str, Lf.lst 1, Lf.lst
  1, Lf.lst 8, Lf.int IntKind.i64, Lf.int IntKind.i64] [X.d (D.int IntKind.i64 x5), X.d (D.int IntKind.i64 x6), X.d (D.str s7), X.d (D.list 1 r8), X.d (D.list 1 r9), X.d (D.list 8 r10), X.d
  (D.int IntKind.i64 x11), X.d (D.int IntKind.i64 x12)])] [] 1 0 0 []) (kBlk 0 (kSeq (some [1, 3, 4, 5, 6, 7]) (fun s K => Jn (Γ false) shp n1 j55_1 s K) (finK (Γ true) rc false (shp 55)
  (SFunc.results sf55) 0)))
noncomputable def l32_0 (n0 : Nat) (Γ : Bool → SemL) (n2 : Nat) (x0 : Int) (r1 : List (List D)) (x2 : Int) (x3 : Int) : Option Out := loopK (Γ false) shp n0 [1, 15, 16, 17] lb32_0 (St.mk [(1,
  V.one (X.d (D.int IntKind.i64 x0))), (15, V.one (X.d (D.list 8 r1))), (16, V.one (X.d (D.int IntKind.i64 x2))), (17, V.one (X.d (D.int IntKind.i64 x3)))] [] [] 0 0 0 []) (kBlk 0 (kSeq (some
  []) (fun s K => Jn (Γ false) shp n2 j32_3 s K) (finK (Γ true) rc false (shp 32) (SFunc.results sf32) 0)))
noncomputable def q9_3 (Γ : Bool → SemL) (n1 : Nat) (n2 : Nat) (r0 : List (List D)) (x1 : Int) (x2 : Int) (r3 : List (List D)) (r4 : List (List D)) (x5 : Int) (x6 : Int) (s7 : ByteArray) (r8
  : List (List D)) (r9 : List (List D)) (r10 : List (List D)) (x11 : Int) (x12 : Int) : Option Out := Jn (Γ false) shp n1 j9_3 (St.mk [(1, V.one (X.ptr 0 0)), (21, V.one (X.d (D.list 14
  r0))), (22, V.one (X.d (D.int IntKind.i64 x1))), (23, V.one (X.d (D.int IntKind.i64 x2)))] [(0, Blk.mk [Lf.lst 5, Lf.lst 14, Lf.int IntKind.i64, Lf.int IntKind.i64, Lf.str, Lf.lst 1, Lf.lst
  1, Lf.lst 8, Lf.int IntKind.i64, Lf.int IntKind.i64] [X.d (D.list 5 r3), X.d (D.list 14 r4), X.d (D.int IntKind.i64 x5), X.d (D.int IntKind.i64 x6), X.d (D.str s7), X.d (D.list 1 r8), X.d
  (D.list 1 r9), X.d (D.list 8 r10), X.d (D.int IntKind.i64 x11), X.d (D.int IntKind.i64 x12)])] [] 1 0 0 []) (kLoop (loopK (Γ false) shp n1) [1, 21, 22, 23] lb9_1 (kBlk 2 (kSeq (some [1])
  (fun s K => Jn (Γ false) shp n2 j9_8 s K) (finK (Γ true) rc false (shp 9) (SFunc.results sf9) 0))))
noncomputable def q9_8 (Γ : Bool → SemL) (n1 : Nat) (r0 : List (List D)) (r1 : List (List D)) (x2 : Int) (x3 : Int) (s4 : ByteArray) (r5 : List (List D)) (r6 : List (List D)) (r7 : List (List
  D)) (x8 : Int) (x9 : Int) : Option Out := Jn (Γ false) shp n1 j9_8 (St.mk [(1, V.one (X.ptr 0 0))] [(0, Blk.mk [Lf.lst 5, Lf.lst 14, Lf.int IntKind.i64, Lf.int IntKind.i64, Lf.str, Lf.lst
  1, Lf.lst 1, Lf.lst 8, Lf.int IntKind.i64, Lf.int IntKind.i64] [X.d (D.list 5 r0), X.d (D.list 14 r1), X.d (D.int IntKind.i64 x2), X.d (D.int IntKind.i64 x3), X.d (D.str s4), X.d (D.list 1
  r5), X.d (D.list 1 r6), X.d (D.list 8 r7), X.d (D.int IntKind.i64 x8), X.d (D.int IntKind.i64 x9)])] [] 1 0 0 []) (finK (Γ true) rc false (shp 9) (SFunc.results sf9) 0)
noncomputable def q55_2 (Γ : Bool → SemL) (n1 : Nat) (x0 : Int) (x1 : Int) (x2 : Int) (b3 : Bool) (b4 : Bool) (x5 : Int) (x6 : Int) (s7 : ByteArray) (r8 : List (List D)) (r9 : List (List D))
  (r10 : List (List D)) (x11 : Int) (x12 : Int) : Option Out := Jn (Γ false) shp n1 j55_2 (St.mk [(1, V.one (X.ptr 0 0)), (3, V.one (X.d (D.int IntKind.i64 x0))), (4, V.one (X.d (D.int
  IntKind.i64 x1))), (5, V.one (X.d (D.int IntKind.i64 x2))), (6, V.one (X.d (D.bool b3))), (7, V.one (X.d (D.bool b4)))] [(0, Blk.mk [Lf.int IntKind.i64, Lf.int IntKind.i64, Lf.str, Lf.lst
  1, Lf.lst 1, Lf.lst 8, Lf.int IntKind.i64, Lf.int IntKind.i64] [X.d (D.int IntKind.i64 x5), X.d (D.int IntKind.i64 x6), X.d (D.str s7), X.d (D.list 1 r8), X.d (D.list 1 r9), X.d (D.list 8
  r10), X.d (D.int IntKind.i64 x11), X.d (D.int IntKind.i64 x12)])] [] 1 0 0 []) (finK (Γ true) rc false (shp 55) (SFunc.results sf55) 0)
noncomputable def q89_0 (Γ : Bool → SemL) (n1 : Nat) (s0 : ByteArray) (b1 : Bool) : Option Out := Jn (Γ false) shp n1 j89_0 (St.mk [(3, V.one (X.d (D.str s0))), (8, V.one (X.d (D.bool b1)))]
  [] [] 0 0 0 []) (kBlk 0 (kSeq (some []) (fun s K => Jn (Γ false) shp n1 j89_4 s K) (finK (Γ true) rc false (shp 89) (SFunc.results sf89) 0)))
noncomputable def q32_1 (Γ : Bool → SemL) (n1 : Nat) (n2 : Nat) (x0 : Int) (r1 : List (List D)) (x2 : Int) (x3 : Int) : Option Out := Jn (Γ false) shp n1 j32_1 (St.mk [(1, V.one (X.d (D.int
  IntKind.i64 x0))), (15, V.one (X.d (D.list 8 r1))), (16, V.one (X.d (D.int IntKind.i64 x2))), (17, V.one (X.d (D.int IntKind.i64 x3)))] [] [] 0 0 0 []) (kLoop (loopK (Γ false) shp n1) [1,
  15, 16, 17] lb32_0 (kBlk 0 (kSeq (some []) (fun s K => Jn (Γ false) shp n2 j32_3 s K) (finK (Γ true) rc false (shp 32) (SFunc.results sf32) 0))))
noncomputable def q32_3 (Γ : Bool → SemL) (n1 : Nat) : Option Out := Jn (Γ false) shp n1 j32_3 (St.mk [] [] [] 0 0 0 []) (finK (Γ true) rc false (shp 32) (SFunc.results sf32) 0)
noncomputable def l9_2 (n0 : Nat) (Γ : Bool → SemL) (n2 : Nat) (n3 : Nat) (r0 : List (List D)) (x1 : Int) (x2 : Int) (y3 : D) (x4 : Int) (x5 : Int) (r6 : List (List D)) (r7 : List (List D))
  (x8 : Int) (x9 : Int) (s10 : ByteArray) (r11 : List (List D)) (r12 : List (List D)) (r13 : List (List D)) (x14 : Int) (x15 : Int) (y16 : D) (y17 : D) (y18 : D) (y19 : D) (y20 : D) (y21 : D)
  (y22 : D) (y23 : D) (y24 : D) (y25 : D) (y26 : D) (y27 : D) (y28 : D) (y29 : D) : Option Out := loopK (Γ false) shp n0 [1, 6, 21, 22, 23, 28, 29, 30] lb9_2 (St.mk [(1, V.one (X.ptr 0 0)),
  (6, V.one (X.ptr 1 0)), (21, V.one (X.d (D.list 14 r0))), (22, V.one (X.d (D.int IntKind.i64 x1))), (23, V.one (X.d (D.int IntKind.i64 x2))), (28, V.one (X.d y3)), (29, V.one (X.d (D.int
  IntKind.i64 x4))), (30, V.one (X.d (D.int IntKind.i64 x5)))] [(0, Blk.mk [Lf.lst 5, Lf.lst 14, Lf.int IntKind.i64, Lf.int IntKind.i64, Lf.str, Lf.lst 1, Lf.lst 1, Lf.lst 8, Lf.int
  IntKind.i64, Lf.int IntKind.i64] [X.d (D.list 5 r6), X.d (D.list 14 r7), X.d (D.int IntKind.i64 x8), X.d (D.int IntKind.i64 x9), X.d (D.str s10), X.d (D.list 1 r11), X.d (D.list 1 r12), X.d
  (D.list 8 r13), X.d (D.int IntKind.i64 x14), X.d (D.int IntKind.i64 x15)]), (1, Blk.mk [Lf.str, Lf.lst 5, Lf.int IntKind.i64, Lf.lst 2, Lf.int IntKind.i64, Lf.int IntKind.i64, Lf.str,
  Lf.lst 1, Lf.lst 1, Lf.lst 8, Lf.int IntKind.i64, Lf.int IntKind.i64, Lf.int IntKind.i64, Lf.int IntKind.i64] [X.d y16, X.d y17, X.d y18, X.d y19, X.d y20, X.d y21, X.d y22, X.d y23, X.d
  y24, X.d y25, X.d y26, X.d y27, X.d y28, X.d y29])] [] 2 0 0 []) (kBlk 4 (kSeq (some [1, 6, 21, 22, 23]) (fun s K => Jn (Γ false) shp n2 j9_6 s K) (kBlk 3 (kSeq (some [1, 21, 22, 23]) (fun
  s K => Jn (Γ false) shp n2 j9_7 s K) (kLoop (loopK (Γ false) shp n2) [1, 21, 22, 23] lb9_1 (kBlk 2 (kSeq (some [1]) (fun s K => Jn (Γ false) shp n3 j9_8 s K) (finK (Γ true) rc false (shp 9)
  (SFunc.results sf9) 0))))))))
noncomputable def q55_3 (Γ : Bool → SemL) (n1 : Nat) (x0 : Int) (x1 : Int) (x2 : Int) (b3 : Bool) (b4 : Bool) (x5 : Int) (x6 : Int) (s7 : ByteArray) (r8 : List (List D)) (r9 : List (List D))
  (r10 : List (List D)) (x11 : Int) (x12 : Int) : Option Out := Jn (Γ false) shp n1 j55_3 (St.mk [(1, V.one (X.ptr 0 0)), (3, V.one (X.d (D.int IntKind.i64 x0))), (4, V.one (X.d (D.int
  IntKind.i64 x1))), (5, V.one (X.d (D.int IntKind.i64 x2))), (6, V.one (X.d (D.bool b3))), (7, V.one (X.d (D.bool b4)))] [(0, Blk.mk [Lf.int IntKind.i64, Lf.int IntKind.i64, Lf.str, Lf.lst
  1, Lf.lst 1, Lf.lst 8, Lf.int IntKind.i64, Lf.int IntKind.i64] [X.d (D.int IntKind.i64 x5), X.d (D.int IntKind.i64 x6), X.d (D.str s7), X.d (D.list 1 r8), X.d (D.list 1 r9), X.d (D.list 8
  r10), X.d (D.int IntKind.i64 x11), X.d (D.int IntKind.i64 x12)])] [] 1 0 0 []) (finK (Γ true) rc false (shp 55) (SFunc.results sf55) 0)
noncomputable def q89_1 (Γ : Bool → SemL) (n1 : Nat) (s0 : ByteArray) (b1 : Bool) : Option Out := Jn (Γ false) shp n1 j89_1 (St.mk [(3, V.one (X.d (D.str s0))), (14, V.one (X.d (D.bool b1)))]
  [] [] 0 0 0 []) (kBlk 0 (kSeq (some []) (fun s K => Jn (Γ false) shp n1 j89_4 s K) (finK (Γ true) rc false (shp 89) (SFunc.results sf89) 0)))
noncomputable def q32_2 (Γ : Bool → SemL) (n1 : Nat) (n2 : Nat) (x0 : Int) (r1 : List (List D)) (x2 : Int) (x3 : Int) : Option Out := Jn (Γ false) shp n1 j32_2 (St.mk [(1, V.one (X.d (D.int
  IntKind.i64 x0))), (15, V.one (X.d (D.list 8 r1))), (16, V.one (X.d (D.int IntKind.i64 x2))), (17, V.one (X.d (D.int IntKind.i64 x3)))] [] [] 0 0 0 []) (kLoop (loopK (Γ false) shp n1) [1,
  15, 16, 17] lb32_0 (kBlk 0 (kSeq (some []) (fun s K => Jn (Γ false) shp n2 j32_3 s K) (finK (Γ true) rc false (shp 32) (SFunc.results sf32) 0))))
noncomputable def q9_4 (Γ : Bool → SemL) (n1 : Nat) (n2 : Nat) (n3 : Nat) (r0 : List (List D)) (x1 : Int) (x2 : Int) (y3 : D) (x4 : Int) (x5 : Int) (r6 : List (List D)) (r7 : List (List D))
  (x8 : Int) (x9 : Int) (s10 : ByteArray) (r11 : List (List D)) (r12 : List (List D)) (r13 : List (List D)) (x14 : Int) (x15 : Int) (y16 : D) (y17 : D) (y18 : D) (y19 : D) (y20 : D) (y21 : D)
  (y22 : D) (y23 : D) (y24 : D) (y25 : D) (y26 : D) (y27 : D) (y28 : D) (y29 : D) : Option Out := Jn (Γ false) shp n1 j9_4 (St.mk [(1, V.one (X.ptr 0 0)), (6, V.one (X.ptr 1 0)), (21, V.one
  (X.d (D.list 14 r0))), (22, V.one (X.d (D.int IntKind.i64 x1))), (23, V.one (X.d (D.int IntKind.i64 x2))), (28, V.one (X.d y3)), (29, V.one (X.d (D.int IntKind.i64 x4))), (30, V.one (X.d
  (D.int IntKind.i64 x5)))] [(0, Blk.mk [Lf.lst 5, Lf.lst 14, Lf.int IntKind.i64, Lf.int IntKind.i64, Lf.str, Lf.lst 1, Lf.lst 1, Lf.lst 8, Lf.int IntKind.i64, Lf.int IntKind.i64] [X.d
  (D.list 5 r6), X.d (D.list 14 r7), X.d (D.int IntKind.i64 x8), X.d (D.int IntKind.i64 x9), X.d (D.str s10), X.d (D.list 1 r11), X.d (D.list 1 r12), X.d (D.list 8 r13), X.d (D.int
  IntKind.i64 x14), X.d (D.int IntKind.i64 x15)]), (1, Blk.mk [Lf.str, Lf.lst 5, Lf.int IntKind.i64, Lf.lst 2, Lf.int IntKind.i64, Lf.int IntKind.i64, Lf.str, Lf.lst 1, Lf.lst 1, Lf.lst 8,
  Lf.int IntKind.i64, Lf.int IntKind.i64, Lf.int IntKind.i64, Lf.int IntKind.i64] [X.d y16, X.d y17, X.d y18, X.d y19, X.d y20, X.d y21, X.d y22, X.d y23, X.d y24, X.d y25, X.d y26, X.d y27,
  X.d y28, X.d y29])] [] 2 0 0 []) (kLoop (loopK (Γ false) shp n1) [1, 6, 21, 22, 23, 28, 29, 30] lb9_2 (kBlk 4 (kSeq (some [1, 6, 21, 22, 23]) (fun s K => Jn (Γ false) shp n2 j9_6 s K) (kBlk
  3 (kSeq (some [1, 21, 22, 23]) (fun s K => Jn (Γ false) shp n2 j9_7 s K) (kLoop (loopK (Γ false) shp n2) [1, 21, 22, 23] lb9_1 (kBlk 2 (kSeq (some [1]) (fun s K => Jn (Γ false) shp n3 j9_8
  s K) (finK (Γ true) rc false (shp 9) (SFunc.results sf9) 0)))))))))
noncomputable def q9_6 (Γ : Bool → SemL) (n1 : Nat) (n2 : Nat) (r0 : List (List D)) (x1 : Int) (x2 : Int) (r3 : List (List D)) (r4 : List (List D)) (x5 : Int) (x6 : Int) (s7 : ByteArray) (r8
  : List (List D)) (r9 : List (List D)) (r10 : List (List D)) (x11 : Int) (x12 : Int) (y13 : D) (y14 : D) (y15 : D) (y16 : D) (y17 : D) (y18 : D) (y19 : D) (y20 : D) (y21 : D) (y22 : D) (y23
  : D) (y24 : D) (y25 : D) (y26 : D) : Option Out := Jn (Γ false) shp n1 j9_6 (St.mk [(1, V.one (X.ptr 0 0)), (6, V.one (X.ptr 1 0)), (21, V.one (X.d (D.list 14 r0))), (22, V.one (X.d (D.int
  IntKind.i64 x1))), (23, V.one (X.d (D.int IntKind.i64 x2)))] [(0, Blk.mk [Lf.lst 5, Lf.lst 14, Lf.int IntKind.i64, Lf.int IntKind.i64, Lf.str, Lf.lst 1, Lf.lst 1, Lf.lst 8, Lf.int
  IntKind.i64, Lf.int IntKind.i64] [X.d (D.list 5 r3), X.d (D.list 14 r4), X.d (D.int IntKind.i64 x5), X.d (D.int IntKind.i64 x6), X.d (D.str s7), X.d (D.list 1 r8), X.d (D.list 1 r9), X.d
  (D.list 8 r10), X.d (D.int IntKind.i64 x11), X.d (D.int IntKind.i64 x12)]), (1, Blk.mk [Lf.str, Lf.lst 5, Lf.int IntKind.i64, Lf.lst 2, Lf.int IntKind.i64, Lf.int IntKind.i64, Lf.str,
  Lf.lst 1, Lf.lst 1, Lf.lst 8, Lf.int IntKind.i64, Lf.int IntKind.i64, Lf.int IntKind.i64, Lf.int IntKind.i64] [X.d y13, X.d y14, X.d y15, X.d y16, X.d y17, X.d y18, X.d y19, X.d y20, X.d
  y21, X.d y22, X.d y23, X.d y24, X.d y25, X.d y26])] [] 2 0 0 []) (kBlk 3 (kSeq (some [1, 21, 22, 23]) (fun s K => Jn (Γ false) shp n1 j9_7 s K) (kLoop (loopK (Γ false) shp n1) [1, 21, 22,
  23] lb9_1 (kBlk 2 (kSeq (some [1]) (fun s K => Jn (Γ false) shp n2 j9_8 s K) (finK (Γ true) rc false (shp 9) (SFunc.results sf9) 0))))))
noncomputable def l55_0 (n0 : Nat) (Γ : Bool → SemL) (n2 : Nat) (x0 : Int) (x1 : Int) (x2 : Int) (b3 : Bool) (b4 : Bool) (r5 : List (List D)) (x6 : Int) (x7 : Int) (x8 : Int) (x9 : Int) (s10
  : ByteArray) (r11 : List (List D)) (r12 : List (List D)) (r13 : List (List D)) (x14 : Int) (x15 : Int) : Option Out := loopK (Γ false) shp n0 [1, 3, 4, 5, 6, 7, 123, 124, 125] lb55_0 (St.mk
  [(1, V.one (X.ptr 0 0)), (3, V.one (X.d (D.int IntKind.i64 x0))), (4, V.one (X.d (D.int IntKind.i64 x1))), (5, V.one (X.d (D.int IntKind.i64 x2))), (6, V.one (X.d (D.bool b3))), (7, V.one
  (X.d (D.bool b4))), (123, V.one (X.d (D.list 1 r5))), (124, V.one (X.d (D.int IntKind.i64 x6))), (125, V.one (X.d (D.int IntKind.i64 x7)))] [(0, Blk.mk [Lf.int IntKind.i64, Lf.int
  IntKind.i64, Lf.str, Lf.lst 1, Lf.lst 1, Lf.lst 8, Lf.int IntKind.i64, Lf.int IntKind.i64] [X.d (D.int IntKind.i64 x8), X.d (D.int IntKind.i64 x9), X.d (D.str s10), X.d (D.list 1 r11), X.d
  (D.list 1 r12), X.d (D.list 8 r13), X.d (D.int IntKind.i64 x14), X.d (D.int IntKind.i64 x15)])] [] 1 0 0 []) (kBlk 1 (kSeq (some [1, 3, 4, 5, 6, 7]) (fun s K => Jn (Γ false) shp n2 j55_6 s
  K) (finK (Γ true) rc false (shp 55) (SFunc.results sf55) 0)))
noncomputable def q89_2 (Γ : Bool → SemL) (n1 : Nat) (s0 : ByteArray) (b1 : Bool) : Option Out := Jn (Γ false) shp n1 j89_2 (St.mk [(3, V.one (X.d (D.str s0))), (17, V.one (X.d (D.bool b1)))]
  [] [] 0 0 0 []) (kBlk 0 (kSeq (some []) (fun s K => Jn (Γ false) shp n1 j89_4 s K) (finK (Γ true) rc false (shp 89) (SFunc.results sf89) 0)))
noncomputable def q9_5 (Γ : Bool → SemL) (n1 : Nat) (n2 : Nat) (n3 : Nat) (r0 : List (List D)) (x1 : Int) (x2 : Int) (y3 : D) (x4 : Int) (x5 : Int) (r6 : List (List D)) (r7 : List (List D))
  (x8 : Int) (x9 : Int) (s10 : ByteArray) (r11 : List (List D)) (r12 : List (List D)) (r13 : List (List D)) (x14 : Int) (x15 : Int) (y16 : D) (y17 : D) (y18 : D) (y19 : D) (y20 : D) (y21 : D)
  (y22 : D) (y23 : D) (y24 : D) (y25 : D) (y26 : D) (y27 : D) (y28 : D) (y29 : D) : Option Out := Jn (Γ false) shp n1 j9_5 (St.mk [(1, V.one (X.ptr 0 0)), (6, V.one (X.ptr 1 0)), (21, V.one
  (X.d (D.list 14 r0))), (22, V.one (X.d (D.int IntKind.i64 x1))), (23, V.one (X.d (D.int IntKind.i64 x2))), (28, V.one (X.d y3)), (29, V.one (X.d (D.int IntKind.i64 x4))), (30, V.one (X.d
  (D.int IntKind.i64 x5)))] [(0, Blk.mk [Lf.lst 5, Lf.lst 14, Lf.int IntKind.i64, Lf.int IntKind.i64, Lf.str, Lf.lst 1, Lf.lst 1, Lf.lst 8, Lf.int IntKind.i64, Lf.int IntKind.i64] [X.d
  (D.list 5 r6), X.d (D.list 14 r7), X.d (D.int IntKind.i64 x8), X.d (D.int IntKind.i64 x9), X.d (D.str s10), X.d (D.list 1 r11), X.d (D.list 1 r12), X.d (D.list 8 r13), X.d (D.int
  IntKind.i64 x14), X.d (D.int IntKind.i64 x15)]), (1, Blk.mk [Lf.str, Lf.lst 5, Lf.int IntKind.i64, Lf.lst 2, Lf.int IntKind.i64, Lf.int IntKind.i64, Lf.str, Lf.lst 1, Lf.lst 1, Lf.lst 8,
  Lf.int IntKind.i64, Lf.int IntKind.i64, Lf.int IntKind.i64, Lf.int IntKind.i64] [X.d y16, X.d y17, X.d y18, X.d y19, X.d y20, X.d y21, X.d y22, X.d y23, X.d y24, X.d y25, X.d y26, X.d y27,
  X.d y28, X.d y29])] [] 2 0 0 []) (kLoop (loopK (Γ false) shp n1) [1, 6, 21, 22, 23, 28, 29, 30] lb9_2 (kBlk 4 (kSeq (some [1, 6, 21, 22, 23]) (fun s K => Jn (Γ false) shp n2 j9_6 s K) (kBlk
  3 (kSeq (some [1, 21, 22, 23]) (fun s K => Jn (Γ false) shp n2 j9_7 s K) (kLoop (loopK (Γ false) shp n2) [1, 21, 22, 23] lb9_1 (kBlk 2 (kSeq (some [1]) (fun s K => Jn (Γ false) shp n3 j9_8
  s K) (finK (Γ true) rc false (shp 9) (SFunc.results sf9) 0)))))))))
noncomputable def q9_7 (Γ : Bool → SemL) (n1 : Nat) (n2 : Nat) (r0 : List (List D)) (x1 : Int) (x2 : Int) (r3 : List (List D)) (r4 : List (List D)) (x5 : Int) (x6 : Int) (s7 : ByteArray) (r8
  : List (List D)) (r9 : List (List D)) (r10 : List (List D)) (x11 : Int) (x12 : Int) : Option Out := Jn (Γ false) shp n1 j9_7 (St.mk [(1, V.one (X.ptr 0 0)), (21, V.one (X.d (D.list 14
  r0))), (22, V.one (X.d (D.int IntKind.i64 x1))), (23, V.one (X.d (D.int IntKind.i64 x2)))] [(0, Blk.mk [Lf.lst 5, Lf.lst 14, Lf.int IntKind.i64, Lf.int IntKind.i64, Lf.str, Lf.lst 1, Lf.lst
  1, Lf.lst 8, Lf.int IntKind.i64, Lf.int IntKind.i64] [X.d (D.list 5 r3), X.d (D.list 14 r4), X.d (D.int IntKind.i64 x5), X.d (D.int IntKind.i64 x6), X.d (D.str s7), X.d (D.list 1 r8), X.d
  (D.list 1 r9), X.d (D.list 8 r10), X.d (D.int IntKind.i64 x11), X.d (D.int IntKind.i64 x12)])] [] 1 0 0 []) (kLoop (loopK (Γ false) shp n1) [1, 21, 22, 23] lb9_1 (kBlk 2 (kSeq (some [1])
  (fun s K => Jn (Γ false) shp n2 j9_8 s K) (finK (Γ true) rc false (shp 9) (SFunc.results sf9) 0))))
noncomputable def q55_4 (Γ : Bool → SemL) (n1 : Nat) (n2 : Nat) (x0 : Int) (x1 : Int) (x2 : Int) (b3 : Bool) (b4 : Bool) (r5 : List (List D)) (x6 : Int) (x7 : Int) (x8 : Int) (x9 : Int) (s10
  : ByteArray) (r11 : List (List D)) (r12 : List (List D)) (r13 : List (List D)) (x14 : Int) (x15 : Int) : Option Out := Jn (Γ false) shp n1 j55_4 (St.mk [(1, V.one (X.ptr 0 0)), (3, V.one
  (X.d (D.int IntKind.i64 x0))), (4, V.one (X.d (D.int IntKind.i64 x1))), (5, V.one (X.d (D.int IntKind.i64 x2))), (6, V.one (X.d (D.bool b3))), (7, V.one (X.d (D.bool b4))), (123, V.one (X.d
  (D.list 1 r5))), (124, V.one (X.d (D.int IntKind.i64 x6))), (125, V.one (X.d (D.int IntKind.i64 x7)))] [(0, Blk.mk [Lf.int IntKind.i64, Lf.int IntKind.i64, Lf.str, Lf.lst 1, Lf.lst 1,
  Lf.lst 8, Lf.int IntKind.i64, Lf.int IntKind.i64] [X.d (D.int IntKind.i64 x8), X.d (D.int IntKind.i64 x9), X.d (D.str s10), X.d (D.list 1 r11), X.d (D.list 1 r12), X.d (D.list 8 r13), X.d
  (D.int IntKind.i64 x14), X.d (D.int IntKind.i64 x15)])] [] 1 0 0 []) (kLoop (loopK (Γ false) shp n1) [1, 3, 4, 5, 6, 7, 123, 124, 125] lb55_0 (kBlk 1 (kSeq (some [1, 3, 4, 5, 6, 7]) (fun s
  K => Jn (Γ false) shp n2 j55_6 s K) (finK (Γ true) rc false (shp 55) (SFunc.results sf55) 0))))
noncomputable def q55_6 (Γ : Bool → SemL) (n1 : Nat) (x0 : Int) (x1 : Int) (x2 : Int) (b3 : Bool) (b4 : Bool) (x5 : Int) (x6 : Int) (s7 : ByteArray) (r8 : List (List D)) (r9 : List (List D))
  (r10 : List (List D)) (x11 : Int) (x12 : Int) : Option Out := Jn (Γ false) shp n1 j55_6 (St.mk [(1, V.one (X.ptr 0 0)), (3, V.one (X.d (D.int IntKind.i64 x0))), (4, V.one (X.d (D.int
  IntKind.i64 x1))), (5, V.one (X.d (D.int IntKind.i64 x2))), (6, V.one (X.d (D.bool b3))), (7, V.one (X.d (D.bool b4)))] [(0, Blk.mk [Lf.int IntKind.i64, Lf.int IntKind.i64, Lf.str, Lf.lst
  1, Lf.lst 1, Lf.lst 8, Lf.int IntKind.i64, Lf.int IntKind.i64] [X.d (D.int IntKind.i64 x5), X.d (D.int IntKind.i64 x6), X.d (D.str s7), X.d (D.list 1 r8), X.d (D.list 1 r9), X.d (D.list 8
  r10), X.d (D.int IntKind.i64 x11), X.d (D.int IntKind.i64 x12)])] [] 1 0 0 []) (finK (Γ true) rc false (shp 55) (SFunc.results sf55) 0)
noncomputable def q89_3 (Γ : Bool → SemL) (n1 : Nat) (b0 : Bool) : Option Out := Jn (Γ false) shp n1 j89_3 (St.mk [(21, V.one (X.d (D.bool b0)))] [] [] 0 0 0 []) (kBlk 0 (kSeq (some []) (fun
  s K => Jn (Γ false) shp n1 j89_4 s K) (finK (Γ true) rc false (shp 89) (SFunc.results sf89) 0)))
noncomputable def q55_5 (Γ : Bool → SemL) (n1 : Nat) (n2 : Nat) (x0 : Int) (x1 : Int) (x2 : Int) (b3 : Bool) (b4 : Bool) (r5 : List (List D)) (x6 : Int) (x7 : Int) (x8 : Int) (x9 : Int) (s10
  : ByteArray) (r11 : List (List D)) (r12 : List (List D)) (r13 : List (List D)) (x14 : Int) (x15 : Int) : Option Out := Jn (Γ false) shp n1 j55_5 (St.mk [(1, V.one (X.ptr 0 0)), (3, V.one
  (X.d (D.int IntKind.i64 x0))), (4, V.one (X.d (D.int IntKind.i64 x1))), (5, V.one (X.d (D.int IntKind.i64 x2))), (6, V.one (X.d (D.bool b3))), (7, V.one (X.d (D.bool b4))), (123, V.one (X.d
  (D.list 1 r5))), (124, V.one (X.d (D.int IntKind.i64 x6))), (125, V.one (X.d (D.int IntKind.i64 x7)))] [(0, Blk.mk [Lf.int IntKind.i64, Lf.int IntKind.i64, Lf.str, Lf.lst 1, Lf.lst 1,
  Lf.lst 8, Lf.int IntKind.i64, Lf.int IntKind.i64] [X.d (D.int IntKind.i64 x8), X.d (D.int IntKind.i64 x9), X.d (D.str s10), X.d (D.list 1 r11), X.d (D.list 1 r12), X.d (D.list 8 r13), X.d
  (D.int IntKind.i64 x14), X.d (D.int IntKind.i64 x15)])] [] 1 0 0 []) (kLoop (loopK (Γ false) shp n1) [1, 3, 4, 5, 6, 7, 123, 124, 125] lb55_0 (kBlk 1 (kSeq (some [1, 3, 4, 5, 6, 7]) (fun s
  K => Jn (Γ false) shp n2 j55_6 s K) (finK (Γ true) rc false (shp 55) (SFunc.results sf55) 0))))
noncomputable def e90 (Γ : Bool → SemL) (n1 : Nat) (r0 : List (List D)) : Option Out := runF Γ shp rc false (shp 90) sf90 n1 [V.one (X.d (D.list 1 r0))] []
noncomputable def q89_4 (Γ : Bool → SemL) (n1 : Nat) : Option Out := Jn (Γ false) shp n1 j89_4 (St.mk [] [] [] 0 0 0 []) (finK (Γ true) rc false (shp 89) (SFunc.results sf89) 0)
noncomputable def l90_0 (n0 : Nat) (Γ : Bool → SemL) (n2 : Nat) (r0 : List (List D)) (x1 : Int) (x2 : Int) : Option Out := loopK (Γ false) shp n0 [5, 6, 7] lb90_0 (St.mk [(5, V.one (X.d
  (D.list 1 r0))), (6, V.one (X.d (D.int IntKind.i64 x1))), (7, V.one (X.d (D.int IntKind.i64 x2)))] [] [] 0 0 0 []) (kBlk 0 (kSeq (some []) (fun s K => Jn (Γ false) shp n2 j90_2 s K) (finK
  (Γ true) rc false (shp 90) (SFunc.results sf90) 0)))
noncomputable def q90_0 (Γ : Bool → SemL) (n1 : Nat) (n2 : Nat) (r0 : List (List D)) (x1 : Int) (x2 : Int) : Option Out := Jn (Γ false) shp n1 j90_0 (St.mk [(5, V.one (X.d (D.list 1 r0))),
  (6, V.one (X.d (D.int IntKind.i64 x1))), (7, V.one (X.d (D.int IntKind.i64 x2)))] [] [] 0 0 0 []) (kLoop (loopK (Γ false) shp n1) [5, 6, 7] lb90_0 (kBlk 0 (kSeq (some []) (fun s K => Jn (Γ
  false) shp n2 j90_2 s K) (finK (Γ true) rc false (shp 90) (SFunc.results sf90) 0))))
noncomputable def q90_2 (Γ : Bool → SemL) (n1 : Nat) : Option Out := Jn (Γ false) shp n1 j90_2 (St.mk [] [] [] 0 0 0 []) (finK (Γ true) rc false (shp 90) (SFunc.results sf90) 0)
noncomputable def q90_1 (Γ : Bool → SemL) (n1 : Nat) (n2 : Nat) (r0 : List (List D)) (x1 : Int) (x2 : Int) : Option Out := Jn (Γ false) shp n1 j90_1 (St.mk [(5, V.one (X.d (D.list 1 r0))),
  (6, V.one (X.d (D.int IntKind.i64 x1))), (7, V.one (X.d (D.int IntKind.i64 x2)))] [] [] 0 0 0 []) (kLoop (loopK (Γ false) shp n1) [5, 6, 7] lb90_0 (kBlk 0 (kSeq (some []) (fun s K => Jn (Γ
  false) shp n2 j90_2 s K) (finK (Γ true) rc false (shp 90) (SFunc.results sf90) 0))))
theorem e9_eq (Γ : Bool → SemL) (n1 : Nat) (r0 : List (List D)) (r1 : List (List D)) (x2 : Int) (x3 : Int) (s4 : ByteArray) (r5 : List (List D)) (r6 : List (List D)) (r7 : List (List D)) (x8
  : Int) (x9 : Int) : e9 Γ n1 r0 r1 x2 x3 s4 r5 r6 r7 x8 x9 = l9_0 n1 Γ n1 r0 (Int.ofNat (List.length r0)) 0 r0 r1 x2 x3 s4 r5 r6 r7 x8 x9 := (run_step ..).trans (by kernel_rfl)
theorem e11_eq (Γ : Bool → SemL) (n1 : Nat) (x0 : Int) (x1 : Int) (s2 : ByteArray) (r3 : List (List D)) (r4 : List (List D)) (r5 : List (List D)) (x6 : Int) (x7 : Int) : e11 Γ n1 x0 x1 s2 r3
  r4 r5 x6 x7 = r_oB (Γ false 32 [V.agg [X.d (D.int IntKind.i64 x0), X.d (D.int IntKind.i64 x1), X.d (D.str s2), X.d (D.list 1 r3), X.d (D.list 1 r4), X.d (D.list 8 r5), X.d (D.int
  IntKind.i64 x6), X.d (D.int IntKind.i64 x7)], V.one (X.d (D.int IntKind.i64 40))] []) (fun c0_ => some (Out.mk true (V.one (X.d (D.bool c0_))) D.junk [] 0)) fun d1_ => some (Out.mk false
  V.junk d1_ [] 0) := (run_step ..).trans (by kernel_rfl)
theorem l9_0_eq (n0 : Nat) (Γ : Bool → SemL) (n2 : Nat) (r0 : List (List D)) (x1 : Int) (x2 : Int) (r3 : List (List D)) (r4 : List (List D)) (x5 : Int) (x6 : Int) (s7 : ByteArray) (r8 : List
  (List D)) (r9 : List (List D)) (r10 : List (List D)) (x11 : Int) (x12 : Int) : l9_0 (n0 + 1) Γ n2 r0 x1 x2 r3 r4 x5 x6 s7 r8 r9 r10 x11 x12 = bif decide (x2 < x1) then q9_0 Γ n0 n2 r0 x1 x2
  r3 r4 x5 x6 s7 r8 r9 r10 x11 x12 else q9_2 Γ n2 r3 r4 x5 x6 s7 r8 r9 r10 x11 x12 := (loop_step ..).trans (by kernel_rfl)
theorem e32_eq (Γ : Bool → SemL) (n1 : Nat) (x0 : Int) (x1 : Int) (s2 : ByteArray) (r3 : List (List D)) (r4 : List (List D)) (r5 : List (List D)) (x6 : Int) (x7 : Int) (x8 : Int) : e32 Γ n1
  x0 x1 s2 r3 r4 r5 x6 x7 x8 = bif decide (x8 < 1) then some (Out.mk true (V.one (X.d (D.bool false))) D.junk [] 0) else r_oB (Γ false 55 [V.agg [X.d (D.int IntKind.i64 x0), X.d (D.int
  IntKind.i64 x1), X.d (D.str s2), X.d (D.list 1 r3), X.d (D.list 1 r4), X.d (D.list 8 r5), X.d (D.int IntKind.i64 x6), X.d (D.int IntKind.i64 x7)]] []) (fun c0_ => bif !c0_ then some (Out.mk
  true (V.one (X.d (D.bool false))) D.junk [] 0) else q32_0 Γ n1 x8 x0 x1 s2 r3 r4 r5 x6 x7) fun d1_ => some (Out.mk false V.junk d1_ [] 0) := (run_step ..).trans (by kernel_rfl)
theorem q9_0_eq (Γ : Bool → SemL) (n1 : Nat) (n2 : Nat) (r0 : List (List D)) (x1 : Int) (x2 : Int) (r3 : List (List D)) (r4 : List (List D)) (x5 : Int) (x6 : Int) (s7 : ByteArray) (r8 : List
  (List D)) (r9 : List (List D)) (r10 : List (List D)) (x11 : Int) (x12 : Int) : q9_0 Γ n1 n2 r0 x1 x2 r3 r4 x5 x6 s7 r8 r9 r10 x11 x12 = bif decide (0 ≤ x2) && decide (x2 < Int.ofNat
  (List.length r0)) then r_oB (Γ false 26 [V.agg [X.d (List.getD (List.getD r0 (Int.toNat x2) []) 0 D.junk), X.d (List.getD (List.getD r0 (Int.toNat x2) []) 1 D.junk), X.d (List.getD
  (List.getD r0 (Int.toNat x2) []) 2 D.junk), X.d (List.getD (List.getD r0 (Int.toNat x2) []) 3 D.junk), X.d (List.getD (List.getD r0 (Int.toNat x2) []) 4 D.junk)]] []) (fun c0_ => bif !c0_
  then some (Out.mk true (V.one (X.d (D.bool false))) D.junk [] 0) else q9_1 Γ n1 n2 r0 x1 x2 r3 r4 x5 x6 s7 r8 r9 r10 x11 x12) fun d1_ => some (Out.mk false V.junk d1_ [] 0) else none :=
  (Jn_step ..).trans (by kernel_rfl)
theorem q9_2_eq (Γ : Bool → SemL) (n1 : Nat) (r0 : List (List D)) (r1 : List (List D)) (x2 : Int) (x3 : Int) (s4 : ByteArray) (r5 : List (List D)) (r6 : List (List D)) (r7 : List (List D))
  (x8 : Int) (x9 : Int) : q9_2 Γ n1 r0 r1 x2 x3 s4 r5 r6 r7 x8 x9 = l9_1 n1 Γ n1 r1 (Int.ofNat (List.length r1)) 0 r0 r1 x2 x3 s4 r5 r6 r7 x8 x9 := (Jn_step ..).trans (by kernel_rfl)
theorem e55_eq (Γ : Bool → SemL) (n1 : Nat) (x0 : Int) (x1 : Int) (s2 : ByteArray) (r3 : List (List D)) (r4 : List (List D)) (r5 : List (List D)) (x6 : Int) (x7 : Int) : e55 Γ n1 x0 x1 s2 r3
  r4 r5 x6 x7 = bif x0 == 1 then bif decide (x1 ≥ 0) then q55_1 Γ n1 0 0 0 (decide (x1 ≤ 2147483647)) false x0 x1 s2 r3 r4 r5 x6 x7 else q55_1 Γ n1 0 0 0 false false x0 x1 s2 r3 r4 r5 x6 x7
  else bif x0 == 2 then bif x1 == 0 then q55_1 Γ n1 0 0 0 true false x0 x1 s2 r3 r4 r5 x6 x7 else q55_1 Γ n1 0 0 0 (x1 == 1) false x0 x1 s2 r3 r4 r5 x6 x7 else bif x0 == 3 then r_oB (Γ false
  27 [V.one (X.d (D.str s2))] []) (fun c0_ => q55_1 Γ n1 0 0 0 (x1 == 0) c0_ x0 x1 s2 r3 r4 r5 x6 x7) fun d1_ => some (Out.mk false V.junk d1_ [] 0) else bif x0 == 4 then r_oB (Γ false 27
  [V.one (X.d (D.str s2))] []) (fun c2_ => q55_1 Γ n1 (Int.ofNat (List.length r5)) 0 0 false c2_ x0 x1 s2 r3 r4 r5 x6 x7) fun d3_ => some (Out.mk false V.junk d3_ [] 0) else bif x0 == 5 then
  q55_1 Γ n1 (if 4 < if Int.ofNat (List.length r5) < 2 then 2 else Int.ofNat (List.length r5) then 4 else if Int.ofNat (List.length r5) < 2 then 2 else Int.ofNat (List.length r5)) 0 0 false
  false x0 x1 s2 r3 r4 r5 x6 x7 else bif x0 == 6 then q55_1 Γ n1 (Int.ofNat (List.length r5)) 0 0 false false x0 x1 s2 r3 r4 r5 x6 x7 else bif x0 == 7 then r_oI (Γ false 89 [V.one (X.d (D.str
  s2))] []) (fun i4_ => r_oI (Γ false 89 [V.one (X.d (D.str s2))] []) (fun i6_ => bif i6_ == 7 then q55_1 Γ n1 1 0 0 false (decide (i4_ > 0)) x0 x1 s2 r3 r4 r5 x6 x7 else q55_1 Γ n1 2 0 0
  false (decide (i4_ > 0)) x0 x1 s2 r3 r4 r5 x6 x7) fun d7_ => some (Out.mk false V.junk d7_ [] 0)) fun d5_ => some (Out.mk false V.junk d5_ [] 0) else bif x0 == 8 then q55_1 Γ n1 2 0 (if 4 <
  if Int.ofNat (List.length r3) < 1 then 1 else Int.ofNat (List.length r3) then 4 else if Int.ofNat (List.length r3) < 1 then 1 else Int.ofNat (List.length r3)) false false x0 x1 s2 r3 r4 r5
  x6 x7 else bif x0 == 9 then q55_1 Γ n1 3 0 0 false false x0 x1 s2 r3 r4 r5 x6 x7 else bif x0 == 10 then q55_1 Γ n1 3 0 2 false false x0 x1 s2 r3 r4 r5 x6 x7 else bif x0 == 11 then q55_1 Γ
  n1 2 0 0 false false x0 x1 s2 r3 r4 r5 x6 x7 else bif x0 == 12 then q55_1 Γ n1 1 2 0 false false x0 x1 s2 r3 r4 r5 x6 x7 else bif x0 == 13 then q55_1 Γ n1 (if Int.ofNat (List.length r5) < 1
  then 1 else Int.ofNat (List.length r5)) (if Int.ofNat (List.length r5) < 1 then 1 else Int.ofNat (List.length r5)) 0 false false x0 x1 s2 r3 r4 r5 x6 x7 else bif x0 == 14 then q55_0 Γ n1 0
  0 false false (x0 == 14) x0 x1 s2 r3 r4 r5 x6 x7 else q55_0 Γ n1 0 0 false false (x0 == 15) x0 x1 s2 r3 r4 r5 x6 x7 := (run_step ..).trans (by kernel_rfl)
theorem q32_0_eq (Γ : Bool → SemL) (n1 : Nat) (x0 : Int) (x1 : Int) (x2 : Int) (s3 : ByteArray) (r4 : List (List D)) (r5 : List (List D)) (r6 : List (List D)) (x7 : Int) (x8 : Int) : q32_0 Γ
  n1 x0 x1 x2 s3 r4 r5 r6 x7 x8 = l32_0 n1 Γ n1 x0 r6 (Int.ofNat (List.length r6)) 0 := (Jn_step ..).trans (by kernel_rfl)
theorem e26_eq (Γ : Bool → SemL) (n1 : Nat) (s0 : ByteArray) (x1 : Int) (r2 : List (List D)) (x3 : Int) (x4 : Int) : e26 Γ n1 s0 x1 r2 x3 x4 = r_oB (Γ false 27 [V.one (X.d (D.str s0))] [])
  (fun c0_ => bif c0_ then r_oB (Γ false 28 [V.agg [X.d (D.int IntKind.i64 x1), X.d (D.list 2 r2)]] []) (fun c2_ => some (Out.mk true (V.one (X.d (D.bool c2_))) D.junk [] 0)) fun d3_ => some
  (Out.mk false V.junk d3_ [] 0) else some (Out.mk true (V.one (X.d (D.bool false))) D.junk [] 0)) fun d1_ => some (Out.mk false V.junk d1_ [] 0) := (run_step ..).trans (by kernel_rfl)
theorem q9_1_eq (Γ : Bool → SemL) (n1 : Nat) (n2 : Nat) (r0 : List (List D)) (x1 : Int) (x2 : Int) (r3 : List (List D)) (r4 : List (List D)) (x5 : Int) (x6 : Int) (s7 : ByteArray) (r8 : List
  (List D)) (r9 : List (List D)) (r10 : List (List D)) (x11 : Int) (x12 : Int) : q9_1 Γ n1 n2 r0 x1 x2 r3 r4 x5 x6 s7 r8 r9 r10 x11 x12 = l9_0 n1 Γ n2 r0 x1 (IntKind.wrap IntKind.i64 (x2 +
  1)) r3 r4 x5 x6 s7 r8 r9 r10 x11 x12 := (Jn_step ..).trans (by kernel_rfl)
theorem l9_1_eq (n0 : Nat) (Γ : Bool → SemL) (n2 : Nat) (r0 : List (List D)) (x1 : Int) (x2 : Int) (r3 : List (List D)) (r4 : List (List D)) (x5 : Int) (x6 : Int) (s7 : ByteArray) (r8 : List
  (List D)) (r9 : List (List D)) (r10 : List (List D)) (x11 : Int) (x12 : Int) : l9_1 (n0 + 1) Γ n2 r0 x1 x2 r3 r4 x5 x6 s7 r8 r9 r10 x11 x12 = bif decide (x2 < x1) then q9_3 Γ n0 n2 r0 x1 x2
  r3 r4 x5 x6 s7 r8 r9 r10 x11 x12 else q9_8 Γ n2 r3 r4 x5 x6 s7 r8 r9 r10 x11 x12 := (loop_step ..).trans (by kernel_rfl)
theorem q55_1_eq (Γ : Bool → SemL) (n1 : Nat) (x0 : Int) (x1 : Int) (x2 : Int) (b3 : Bool) (b4 : Bool) (x5 : Int) (x6 : Int) (s7 : ByteArray) (r8 : List (List D)) (r9 : List (List D)) (r10 :
  List (List D)) (x11 : Int) (x12 : Int) : q55_1 Γ n1 x0 x1 x2 b3 b4 x5 x6 s7 r8 r9 r10 x11 x12 = bif x5 != 1 then bif x5 != 2 then q55_2 Γ n1 x0 x1 x2 (x6 == 0) b4 x5 x6 s7 r8 r9 r10 x11 x12
  else q55_2 Γ n1 x0 x1 x2 b3 b4 x5 x6 s7 r8 r9 r10 x11 x12 else q55_2 Γ n1 x0 x1 x2 b3 b4 x5 x6 s7 r8 r9 r10 x11 x12 := (Jn_step ..).trans (by kernel_rfl)
theorem e27_eq (Γ : Bool → SemL) (n1 : Nat) (s0 : ByteArray) : e27 Γ n1 s0 = r_t2oL5a4ISII (Γ false 17 [V.one (X.d (D.str s0))] []) (fun w0_ i1_ u2_ i3_ i4_ => bif i1_ == 0 then bif Int.ofNat
  (List.length w0_) == 2 then bif true && decide (0 < Int.ofNat (List.length w0_)) then bif D.isInt IntKind.i64 (List.getD (List.getD w0_ 0 []) 0 D.junk) then bif D.num (List.getD (List.getD
  w0_ 0 []) 0 D.junk) == 1 then bif true && decide (0 < Int.ofNat (List.length w0_)) then bif D.isStr (List.getD (List.getD w0_ 0 []) 1 D.junk) then some (Out.mk true (V.one (X.d (D.bool
  (beqL (Array.toList (ByteArray.data (D.bytes (List.getD (List.getD w0_ 0 []) 1 D.junk)))) (Array.toList (ByteArray.data s0)))))) D.junk [] 0) else none else none else some (Out.mk true
  (V.one (X.d (D.bool false))) D.junk [] 0) else none else none else some (Out.mk true (V.one (X.d (D.bool false))) D.junk [] 0) else some (Out.mk true (V.one (X.d (D.bool false))) D.junk []
  0)) fun d5_ => some (Out.mk false V.junk d5_ [] 0) := (run_step ..).trans (by kernel_rfl)
theorem e89_eq (Γ : Bool → SemL) (n1 : Nat) (s0 : ByteArray) : e89 Γ n1 s0 = bif beqL (Array.toList (ByteArray.data s0)) (Array.toList (ByteArray.data (ByteArray.mk #[111, 114]))) then some
  (Out.mk true (V.one (X.d (D.int IntKind.i64 1))) D.junk [] 0) else bif beqL (Array.toList (ByteArray.data s0)) (Array.toList (ByteArray.data (ByteArray.mk #[97, 110, 100]))) then some
  (Out.mk true (V.one (X.d (D.int IntKind.i64 2))) D.junk [] 0) else bif beqL (Array.toList (ByteArray.data s0)) (Array.toList (ByteArray.data (ByteArray.mk #[61, 61]))) then q89_0 Γ n1 s0
  (beqL (Array.toList (ByteArray.data s0)) (Array.toList (ByteArray.data (ByteArray.mk #[61, 61])))) else bif beqL (Array.toList (ByteArray.data s0)) (Array.toList (ByteArray.data
  (ByteArray.mk #[60]))) then q89_0 Γ n1 s0 (beqL (Array.toList (ByteArray.data s0)) (Array.toList (ByteArray.data (ByteArray.mk #[60])))) else q89_0 Γ n1 s0 (beqL (Array.toList
  (ByteArray.data s0)) (Array.toList (ByteArray.data (ByteArray.mk #[60, 61])))) := (run_step ..).trans (by kernel_rfl)
theorem q55_0_eq (Γ : Bool → SemL) (n1 : Nat) (x0 : Int) (x1 : Int) (b2 : Bool) (b3 : Bool) (b4 : Bool) (x5 : Int) (x6 : Int) (s7 : ByteArray) (r8 : List (List D)) (r9 : List (List D)) (r10 :
  List (List D)) (x11 : Int) (x12 : Int) : q55_0 Γ n1 x0 x1 b2 b3 b4 x5 x6 s7 r8 r9 r10 x11 x12 = bif b4 then q55_1 Γ n1 x0 2 x1 b2 b3 x5 x6 s7 r8 r9 r10 x11 x12 else some (Out.mk true (V.one
  (X.d (D.bool false))) D.junk [] 0) := (Jn_step ..).trans (by kernel_rfl)
theorem l32_0_eq (n0 : Nat) (Γ : Bool → SemL) (n2 : Nat) (x0 : Int) (r1 : List (List D)) (x2 : Int) (x3 : Int) : l32_0 (n0 + 1) Γ n2 x0 r1 x2 x3 = bif decide (x3 < x2) then q32_1 Γ n0 n2 x0
  r1 x2 x3 else q32_3 Γ n2 := (loop_step ..).trans (by kernel_rfl)
theorem q9_3_eq (Γ : Bool → SemL) (n1 : Nat) (n2 : Nat) (r0 : List (List D)) (x1 : Int) (x2 : Int) (r3 : List (List D)) (r4 : List (List D)) (x5 : Int) (x6 : Int) (s7 : ByteArray) (r8 : List
  (List D)) (r9 : List (List D)) (r10 : List (List D)) (x11 : Int) (x12 : Int) : q9_3 Γ n1 n2 r0 x1 x2 r3 r4 x5 x6 s7 r8 r9 r10 x11 x12 = bif decide (0 ≤ x2) && decide (x2 < Int.ofNat
  (List.length r0)) then bif D.isL (List.getD (List.getD r0 (Int.toNat x2) []) 1 D.junk) then l9_2 n1 Γ n1 n2 r0 x1 x2 (List.getD (List.getD r0 (Int.toNat x2) []) 1 D.junk) (Int.ofNat
  (List.length (D.rows (List.getD (List.getD r0 (Int.toNat x2) []) 1 D.junk)))) 0 r3 r4 x5 x6 s7 r8 r9 r10 x11 x12 (List.getD (List.getD r0 (Int.toNat x2) []) 0 D.junk) (List.getD (List.getD
  r0 (Int.toNat x2) []) 1 D.junk) (List.getD (List.getD r0 (Int.toNat x2) []) 2 D.junk) (List.getD (List.getD r0 (Int.toNat x2) []) 3 D.junk) (List.getD (List.getD r0 (Int.toNat x2) []) 4
  D.junk) (List.getD (List.getD r0 (Int.toNat x2) []) 5 D.junk) (List.getD (List.getD r0 (Int.toNat x2) []) 6 D.junk) (List.getD (List.getD r0 (Int.toNat x2) []) 7 D.junk) (List.getD
  (List.getD r0 (Int.toNat x2) []) 8 D.junk) (List.getD (List.getD r0 (Int.toNat x2) []) 9 D.junk) (List.getD (List.getD r0 (Int.toNat x2) []) 10 D.junk) (List.getD (List.getD r0 (Int.toNat
  x2) []) 11 D.junk) (List.getD (List.getD r0 (Int.toNat x2) []) 12 D.junk) (List.getD (List.getD r0 (Int.toNat x2) []) 13 D.junk) else none else none := (Jn_step ..).trans (by kernel_rfl)
theorem q9_8_eq (Γ : Bool → SemL) (n1 : Nat) (r0 : List (List D)) (r1 : List (List D)) (x2 : Int) (x3 : Int) (s4 : ByteArray) (r5 : List (List D)) (r6 : List (List D)) (r7 : List (List D))
  (x8 : Int) (x9 : Int) : q9_8 Γ n1 r0 r1 x2 x3 s4 r5 r6 r7 x8 x9 = r_oB (Γ false 11 [V.agg [X.d (D.int IntKind.i64 x2), X.d (D.int IntKind.i64 x3), X.d (D.str s4), X.d (D.list 1 r5), X.d
  (D.list 1 r6), X.d (D.list 8 r7), X.d (D.int IntKind.i64 x8), X.d (D.int IntKind.i64 x9)]] []) (fun c0_ => some (Out.mk true (V.one (X.d (D.bool c0_))) D.junk [] 0)) fun d1_ => some (Out.mk
  false V.junk d1_ [] 0) := (Jn_step ..).trans (by kernel_rfl)
theorem q55_2_eq (Γ : Bool → SemL) (n1 : Nat) (x0 : Int) (x1 : Int) (x2 : Int) (b3 : Bool) (b4 : Bool) (x5 : Int) (x6 : Int) (s7 : ByteArray) (r8 : List (List D)) (r9 : List (List D)) (r10 :
  List (List D)) (x11 : Int) (x12 : Int) : q55_2 Γ n1 x0 x1 x2 b3 b4 x5 x6 s7 r8 r9 r10 x11 x12 = bif x5 != 3 then bif x5 != 4 then bif x5 != 7 then q55_3 Γ n1 x0 x1 x2 b3 (beqL (Array.toList
  (ByteArray.data s7)) (Array.toList (ByteArray.data (ByteArray.mk #[])))) x5 x6 s7 r8 r9 r10 x11 x12 else q55_3 Γ n1 x0 x1 x2 b3 b4 x5 x6 s7 r8 r9 r10 x11 x12 else q55_3 Γ n1 x0 x1 x2 b3 b4
  x5 x6 s7 r8 r9 r10 x11 x12 else q55_3 Γ n1 x0 x1 x2 b3 b4 x5 x6 s7 r8 r9 r10 x11 x12 := (Jn_step ..).trans (by kernel_rfl)
theorem q89_0_eq (Γ : Bool → SemL) (n1 : Nat) (s0 : ByteArray) (b1 : Bool) : q89_0 Γ n1 s0 b1 = bif b1 then some (Out.mk true (V.one (X.d (D.int IntKind.i64 3))) D.junk [] 0) else bif beqL
  (Array.toList (ByteArray.data s0)) (Array.toList (ByteArray.data (ByteArray.mk #[58, 58]))) then some (Out.mk true (V.one (X.d (D.int IntKind.i64 4))) D.junk [] 0) else bif beqL
  (Array.toList (ByteArray.data s0)) (Array.toList (ByteArray.data (ByteArray.mk #[43]))) then q89_1 Γ n1 s0 (beqL (Array.toList (ByteArray.data s0)) (Array.toList (ByteArray.data
  (ByteArray.mk #[43])))) else q89_1 Γ n1 s0 (beqL (Array.toList (ByteArray.data s0)) (Array.toList (ByteArray.data (ByteArray.mk #[45])))) := (Jn_step ..).trans (by kernel_rfl)
theorem q32_1_eq (Γ : Bool → SemL) (n1 : Nat) (n2 : Nat) (x0 : Int) (r1 : List (List D)) (x2 : Int) (x3 : Int) : q32_1 Γ n1 n2 x0 r1 x2 x3 = bif decide (0 ≤ x3) && decide (x3 < Int.ofNat
  (List.length r1)) then r_oB (Γ false 32 [V.agg [X.d (List.getD (List.getD r1 (Int.toNat x3) []) 0 D.junk), X.d (List.getD (List.getD r1 (Int.toNat x3) []) 1 D.junk), X.d (List.getD
  (List.getD r1 (Int.toNat x3) []) 2 D.junk), X.d (List.getD (List.getD r1 (Int.toNat x3) []) 3 D.junk), X.d (List.getD (List.getD r1 (Int.toNat x3) []) 4 D.junk), X.d (List.getD (List.getD
  r1 (Int.toNat x3) []) 5 D.junk), X.d (List.getD (List.getD r1 (Int.toNat x3) []) 6 D.junk), X.d (List.getD (List.getD r1 (Int.toNat x3) []) 7 D.junk)], V.one (X.d (D.int IntKind.i64
  (IntKind.wrap IntKind.i64 (x0 - 1))))] []) (fun c0_ => bif !c0_ then some (Out.mk true (V.one (X.d (D.bool false))) D.junk [] 0) else q32_2 Γ n1 n2 x0 r1 x2 x3) fun d1_ => some (Out.mk
  false V.junk d1_ [] 0) else none := (Jn_step ..).trans (by kernel_rfl)
theorem q32_3_eq (Γ : Bool → SemL) (n1 : Nat) : q32_3 Γ n1 = some (Out.mk true (V.one (X.d (D.bool true))) D.junk [] 0) := (Jn_step ..).trans (by kernel_rfl)
theorem l9_2_eq (n0 : Nat) (Γ : Bool → SemL) (n2 : Nat) (n3 : Nat) (r0 : List (List D)) (x1 : Int) (x2 : Int) (y3 : D) (x4 : Int) (x5 : Int) (r6 : List (List D)) (r7 : List (List D)) (x8 :
  Int) (x9 : Int) (s10 : ByteArray) (r11 : List (List D)) (r12 : List (List D)) (r13 : List (List D)) (x14 : Int) (x15 : Int) (y16 : D) (y17 : D) (y18 : D) (y19 : D) (y20 : D) (y21 : D) (y22
  : D) (y23 : D) (y24 : D) (y25 : D) (y26 : D) (y27 : D) (y28 : D) (y29 : D) : l9_2 (n0 + 1) Γ n2 n3 r0 x1 x2 y3 x4 x5 r6 r7 x8 x9 s10 r11 r12 r13 x14 x15 y16 y17 y18 y19 y20 y21 y22 y23 y24
  y25 y26 y27 y28 y29 = bif decide (x5 < x4) then q9_4 Γ n0 n2 n3 r0 x1 x2 y3 x4 x5 r6 r7 x8 x9 s10 r11 r12 r13 x14 x15 y16 y17 y18 y19 y20 y21 y22 y23 y24 y25 y26 y27 y28 y29 else q9_6 Γ n2
  n3 r0 x1 x2 r6 r7 x8 x9 s10 r11 r12 r13 x14 x15 y16 y17 y18 y19 y20 y21 y22 y23 y24 y25 y26 y27 y28 y29 := (loop_step ..).trans (by kernel_rfl)
theorem q55_3_eq (Γ : Bool → SemL) (n1 : Nat) (x0 : Int) (x1 : Int) (x2 : Int) (b3 : Bool) (b4 : Bool) (x5 : Int) (x6 : Int) (s7 : ByteArray) (r8 : List (List D)) (r9 : List (List D)) (r10 :
  List (List D)) (x11 : Int) (x12 : Int) : q55_3 Γ n1 x0 x1 x2 b3 b4 x5 x6 s7 r8 r9 r10 x11 x12 = l55_0 n1 Γ n1 x0 x1 x2 b3 b4 r9 (Int.ofNat (List.length r9)) 0 x5 x6 s7 r8 r9 r10 x11 x12 :=
  (Jn_step ..).trans (by kernel_rfl)
theorem q89_1_eq (Γ : Bool → SemL) (n1 : Nat) (s0 : ByteArray) (b1 : Bool) : q89_1 Γ n1 s0 b1 = bif b1 then some (Out.mk true (V.one (X.d (D.int IntKind.i64 5))) D.junk [] 0) else bif beqL
  (Array.toList (ByteArray.data s0)) (Array.toList (ByteArray.data (ByteArray.mk #[42]))) then q89_2 Γ n1 s0 (beqL (Array.toList (ByteArray.data s0)) (Array.toList (ByteArray.data
  (ByteArray.mk #[42])))) else bif beqL (Array.toList (ByteArray.data s0)) (Array.toList (ByteArray.data (ByteArray.mk #[47]))) then q89_2 Γ n1 s0 (beqL (Array.toList (ByteArray.data s0))
  (Array.toList (ByteArray.data (ByteArray.mk #[47])))) else q89_2 Γ n1 s0 (beqL (Array.toList (ByteArray.data s0)) (Array.toList (ByteArray.data (ByteArray.mk #[37])))) := (Jn_step ..).trans
  (by kernel_rfl)
theorem q32_2_eq (Γ : Bool → SemL) (n1 : Nat) (n2 : Nat) (x0 : Int) (r1 : List (List D)) (x2 : Int) (x3 : Int) : q32_2 Γ n1 n2 x0 r1 x2 x3 = l32_0 n1 Γ n2 x0 r1 x2 (IntKind.wrap IntKind.i64
  (x3 + 1)) := (Jn_step ..).trans (by kernel_rfl)
theorem q9_4_eq (Γ : Bool → SemL) (n1 : Nat) (n2 : Nat) (n3 : Nat) (r0 : List (List D)) (x1 : Int) (x2 : Int) (y3 : D) (x4 : Int) (x5 : Int) (r6 : List (List D)) (r7 : List (List D)) (x8 :
  Int) (x9 : Int) (s10 : ByteArray) (r11 : List (List D)) (r12 : List (List D)) (r13 : List (List D)) (x14 : Int) (x15 : Int) (y16 : D) (y17 : D) (y18 : D) (y19 : D) (y20 : D) (y21 : D) (y22
  : D) (y23 : D) (y24 : D) (y25 : D) (y26 : D) (y27 : D) (y28 : D) (y29 : D) : q9_4 Γ n1 n2 n3 r0 x1 x2 y3 x4 x5 r6 r7 x8 x9 s10 r11 r12 r13 x14 x15 y16 y17 y18 y19 y20 y21 y22 y23 y24 y25
  y26 y27 y28 y29 = bif D.isList 5 y3 then bif decide (0 ≤ x5) && decide (x5 < Int.ofNat (List.length (D.rows y3))) then r_oB (Γ false 26 [V.agg [X.d (List.getD (List.getD (D.rows y3)
  (Int.toNat x5) []) 0 D.junk), X.d (List.getD (List.getD (D.rows y3) (Int.toNat x5) []) 1 D.junk), X.d (List.getD (List.getD (D.rows y3) (Int.toNat x5) []) 2 D.junk), X.d (List.getD
  (List.getD (D.rows y3) (Int.toNat x5) []) 3 D.junk), X.d (List.getD (List.getD (D.rows y3) (Int.toNat x5) []) 4 D.junk)]] []) (fun c0_ => bif !c0_ then some (Out.mk true (V.one (X.d (D.bool
  false))) D.junk [] 0) else q9_5 Γ n1 n2 n3 r0 x1 x2 y3 x4 x5 r6 r7 x8 x9 s10 r11 r12 r13 x14 x15 y16 y17 y18 y19 y20 y21 y22 y23 y24 y25 y26 y27 y28 y29) fun d1_ => some (Out.mk false
  V.junk d1_ [] 0) else none else none := (Jn_step ..).trans (by kernel_rfl)
theorem q9_6_eq (Γ : Bool → SemL) (n1 : Nat) (n2 : Nat) (r0 : List (List D)) (x1 : Int) (x2 : Int) (r3 : List (List D)) (r4 : List (List D)) (x5 : Int) (x6 : Int) (s7 : ByteArray) (r8 : List
  (List D)) (r9 : List (List D)) (r10 : List (List D)) (x11 : Int) (x12 : Int) (y13 : D) (y14 : D) (y15 : D) (y16 : D) (y17 : D) (y18 : D) (y19 : D) (y20 : D) (y21 : D) (y22 : D) (y23 : D)
  (y24 : D) (y25 : D) (y26 : D) : q9_6 Γ n1 n2 r0 x1 x2 r3 r4 x5 x6 s7 r8 r9 r10 x11 x12 y13 y14 y15 y16 y17 y18 y19 y20 y21 y22 y23 y24 y25 y26 = r_oB (Γ false 27 [V.one (X.d y13)] []) (fun
  c0_ => bif !c0_ then some (Out.mk true (V.one (X.d (D.bool false))) D.junk [] 0) else r_oB (Γ false 28 [V.agg [X.d y15, X.d y16]] []) (fun c2_ => bif !c2_ then some (Out.mk true (V.one (X.d
  (D.bool false))) D.junk [] 0) else r_oB (Γ false 11 [V.agg [X.d y17, X.d y18, X.d y19, X.d y20, X.d y21, X.d y22, X.d y23, X.d y24]] []) (fun c4_ => bif !c4_ then some (Out.mk true (V.one
  (X.d (D.bool false))) D.junk [] 0) else q9_7 Γ n1 n2 r0 x1 x2 r3 r4 x5 x6 s7 r8 r9 r10 x11 x12) fun d5_ => some (Out.mk false V.junk d5_ [] 0)) fun d3_ => some (Out.mk false V.junk d3_ []
  0)) fun d1_ => some (Out.mk false V.junk d1_ [] 0) := (Jn_step ..).trans (by kernel_rfl)
theorem l55_0_eq (n0 : Nat) (Γ : Bool → SemL) (n2 : Nat) (x0 : Int) (x1 : Int) (x2 : Int) (b3 : Bool) (b4 : Bool) (r5 : List (List D)) (x6 : Int) (x7 : Int) (x8 : Int) (x9 : Int) (s10 :
  ByteArray) (r11 : List (List D)) (r12 : List (List D)) (r13 : List (List D)) (x14 : Int) (x15 : Int) : l55_0 (n0 + 1) Γ n2 x0 x1 x2 b3 b4 r5 x6 x7 x8 x9 s10 r11 r12 r13 x14 x15 = bif decide
  (x7 < x6) then q55_4 Γ n0 n2 x0 x1 x2 b3 b4 r5 x6 x7 x8 x9 s10 r11 r12 r13 x14 x15 else q55_6 Γ n2 x0 x1 x2 b3 b4 x8 x9 s10 r11 r12 r13 x14 x15 := (loop_step ..).trans (by kernel_rfl)
theorem q89_2_eq (Γ : Bool → SemL) (n1 : Nat) (s0 : ByteArray) (b1 : Bool) : q89_2 Γ n1 s0 b1 = bif b1 then some (Out.mk true (V.one (X.d (D.int IntKind.i64 6))) D.junk [] 0) else bif beqL
  (Array.toList (ByteArray.data s0)) (Array.toList (ByteArray.data (ByteArray.mk #[110, 111, 116]))) then q89_3 Γ n1 (beqL (Array.toList (ByteArray.data s0)) (Array.toList (ByteArray.data
  (ByteArray.mk #[110, 111, 116])))) else q89_3 Γ n1 (beqL (Array.toList (ByteArray.data s0)) (Array.toList (ByteArray.data (ByteArray.mk #[110, 101, 103])))) := (Jn_step ..).trans (by
  kernel_rfl)
theorem q9_5_eq (Γ : Bool → SemL) (n1 : Nat) (n2 : Nat) (n3 : Nat) (r0 : List (List D)) (x1 : Int) (x2 : Int) (y3 : D) (x4 : Int) (x5 : Int) (r6 : List (List D)) (r7 : List (List D)) (x8 :
  Int) (x9 : Int) (s10 : ByteArray) (r11 : List (List D)) (r12 : List (List D)) (r13 : List (List D)) (x14 : Int) (x15 : Int) (y16 : D) (y17 : D) (y18 : D) (y19 : D) (y20 : D) (y21 : D) (y22
  : D) (y23 : D) (y24 : D) (y25 : D) (y26 : D) (y27 : D) (y28 : D) (y29 : D) : q9_5 Γ n1 n2 n3 r0 x1 x2 y3 x4 x5 r6 r7 x8 x9 s10 r11 r12 r13 x14 x15 y16 y17 y18 y19 y20 y21 y22 y23 y24 y25
  y26 y27 y28 y29 = l9_2 n1 Γ n2 n3 r0 x1 x2 y3 x4 (IntKind.wrap IntKind.i64 (x5 + 1)) r6 r7 x8 x9 s10 r11 r12 r13 x14 x15 y16 y17 y18 y19 y20 y21 y22 y23 y24 y25 y26 y27 y28 y29 := (Jn_step
  ..).trans (by kernel_rfl)
theorem q9_7_eq (Γ : Bool → SemL) (n1 : Nat) (n2 : Nat) (r0 : List (List D)) (x1 : Int) (x2 : Int) (r3 : List (List D)) (r4 : List (List D)) (x5 : Int) (x6 : Int) (s7 : ByteArray) (r8 : List
  (List D)) (r9 : List (List D)) (r10 : List (List D)) (x11 : Int) (x12 : Int) : q9_7 Γ n1 n2 r0 x1 x2 r3 r4 x5 x6 s7 r8 r9 r10 x11 x12 = l9_1 n1 Γ n2 r0 x1 (IntKind.wrap IntKind.i64 (x2 +
  1)) r3 r4 x5 x6 s7 r8 r9 r10 x11 x12 := (Jn_step ..).trans (by kernel_rfl)
theorem q55_4_eq (Γ : Bool → SemL) (n1 : Nat) (n2 : Nat) (x0 : Int) (x1 : Int) (x2 : Int) (b3 : Bool) (b4 : Bool) (r5 : List (List D)) (x6 : Int) (x7 : Int) (x8 : Int) (x9 : Int) (s10 :
  ByteArray) (r11 : List (List D)) (r12 : List (List D)) (r13 : List (List D)) (x14 : Int) (x15 : Int) : q55_4 Γ n1 n2 x0 x1 x2 b3 b4 r5 x6 x7 x8 x9 s10 r11 r12 r13 x14 x15 = bif decide (0 ≤
  x7) && decide (x7 < Int.ofNat (List.length r5)) then bif D.isInt IntKind.i64 (List.getD (List.getD r5 (Int.toNat x7) []) 0 D.junk) then bif decide (D.num (List.getD (List.getD r5 (Int.toNat
  x7) []) 0 D.junk) > 2147483647) then some (Out.mk true (V.one (X.d (D.bool false))) D.junk [] 0) else bif D.isInt IntKind.i64 (List.getD (List.getD r5 (Int.toNat x7) []) 0 D.junk) then bif
  decide (D.num (List.getD (List.getD r5 (Int.toNat x7) []) 0 D.junk) < 0) then bif x8 != 15 then some (Out.mk true (V.one (X.d (D.bool false))) D.junk [] 0) else bif D.isInt IntKind.i64
  (List.getD (List.getD r5 (Int.toNat x7) []) 0 D.junk) then bif decide (D.num (List.getD (List.getD r5 (Int.toNat x7) []) 0 D.junk) < -2147483647) then some (Out.mk true (V.one (X.d (D.bool
  false))) D.junk [] 0) else q55_5 Γ n1 n2 x0 x1 x2 b3 b4 r5 x6 x7 x8 x9 s10 r11 r12 r13 x14 x15 else none else q55_5 Γ n1 n2 x0 x1 x2 b3 b4 r5 x6 x7 x8 x9 s10 r11 r12 r13 x14 x15 else none
  else none else none := (Jn_step ..).trans (by kernel_rfl)
theorem q55_6_eq (Γ : Bool → SemL) (n1 : Nat) (x0 : Int) (x1 : Int) (x2 : Int) (b3 : Bool) (b4 : Bool) (x5 : Int) (x6 : Int) (s7 : ByteArray) (r8 : List (List D)) (r9 : List (List D)) (r10 :
  List (List D)) (x11 : Int) (x12 : Int) : q55_6 Γ n1 x0 x1 x2 b3 b4 x5 x6 s7 r8 r9 r10 x11 x12 = bif b3 then bif b4 then bif Int.ofNat (List.length r10) == x0 then bif Int.ofNat (List.length
  r9) == x1 then bif Int.ofNat (List.length r8) == x2 then r_oB (Γ false 90 [V.one (X.d (D.list 1 r8))] []) (fun c0_ => some (Out.mk true (V.one (X.d (D.bool c0_))) D.junk [] 0)) fun d1_ =>
  some (Out.mk false V.junk d1_ [] 0) else some (Out.mk true (V.one (X.d (D.bool false))) D.junk [] 0) else some (Out.mk true (V.one (X.d (D.bool false))) D.junk [] 0) else some (Out.mk true
  (V.one (X.d (D.bool false))) D.junk [] 0) else some (Out.mk true (V.one (X.d (D.bool false))) D.junk [] 0) else some (Out.mk true (V.one (X.d (D.bool false))) D.junk [] 0) := (Jn_step
  ..).trans (by kernel_rfl)
theorem q89_3_eq (Γ : Bool → SemL) (n1 : Nat) (b0 : Bool) : q89_3 Γ n1 b0 = bif b0 then some (Out.mk true (V.one (X.d (D.int IntKind.i64 7))) D.junk [] 0) else q89_4 Γ n1 := (Jn_step
  ..).trans (by kernel_rfl)
theorem q55_5_eq (Γ : Bool → SemL) (n1 : Nat) (n2 : Nat) (x0 : Int) (x1 : Int) (x2 : Int) (b3 : Bool) (b4 : Bool) (r5 : List (List D)) (x6 : Int) (x7 : Int) (x8 : Int) (x9 : Int) (s10 :
  ByteArray) (r11 : List (List D)) (r12 : List (List D)) (r13 : List (List D)) (x14 : Int) (x15 : Int) : q55_5 Γ n1 n2 x0 x1 x2 b3 b4 r5 x6 x7 x8 x9 s10 r11 r12 r13 x14 x15 = l55_0 n1 Γ n2 x0
  x1 x2 b3 b4 r5 x6 (IntKind.wrap IntKind.i64 (x7 + 1)) x8 x9 s10 r11 r12 r13 x14 x15 := (Jn_step ..).trans (by kernel_rfl)
theorem e90_eq (Γ : Bool → SemL) (n1 : Nat) (r0 : List (List D)) : e90 Γ n1 r0 = l90_0 n1 Γ n1 r0 (Int.ofNat (List.length r0)) 0 := (run_step ..).trans (by kernel_rfl)
theorem q89_4_eq (Γ : Bool → SemL) (n1 : Nat) : q89_4 Γ n1 = some (Out.mk true (V.one (X.d (D.int IntKind.i64 0))) D.junk [] 0) := (Jn_step ..).trans (by kernel_rfl)
theorem l90_0_eq (n0 : Nat) (Γ : Bool → SemL) (n2 : Nat) (r0 : List (List D)) (x1 : Int) (x2 : Int) : l90_0 (n0 + 1) Γ n2 r0 x1 x2 = bif decide (x2 < x1) then q90_0 Γ n0 n2 r0 x1 x2 else
  q90_2 Γ n2 := (loop_step ..).trans (by kernel_rfl)
theorem q90_0_eq (Γ : Bool → SemL) (n1 : Nat) (n2 : Nat) (r0 : List (List D)) (x1 : Int) (x2 : Int) : q90_0 Γ n1 n2 r0 x1 x2 = bif decide (0 ≤ x2) && decide (x2 < Int.ofNat (List.length r0))
  then r_oB (Γ false 27 [V.one (X.d (List.getD (List.getD r0 (Int.toNat x2) []) 0 D.junk))] []) (fun c0_ => bif !c0_ then some (Out.mk true (V.one (X.d (D.bool false))) D.junk [] 0) else
  q90_1 Γ n1 n2 r0 x1 x2) fun d1_ => some (Out.mk false V.junk d1_ [] 0) else none := (Jn_step ..).trans (by kernel_rfl)
theorem q90_2_eq (Γ : Bool → SemL) (n1 : Nat) : q90_2 Γ n1 = some (Out.mk true (V.one (X.d (D.bool true))) D.junk [] 0) := (Jn_step ..).trans (by kernel_rfl)
theorem q90_1_eq (Γ : Bool → SemL) (n1 : Nat) (n2 : Nat) (r0 : List (List D)) (x1 : Int) (x2 : Int) : q90_1 Γ n1 n2 r0 x1 x2 = l90_0 n1 Γ n2 r0 x1 (IntKind.wrap IntKind.i64 (x2 + 1)) :=
  (Jn_step ..).trans (by kernel_rfl)
theorem call9 (r0 : List (List D)) (r1 : List (List D)) (x2 : Int) (x3 : Int) (s4 : ByteArray) (r5 : List (List D)) (r6 : List (List D)) (r7 : List (List D)) (x8 : Int) (x9 : Int) {o : Out}
  (h : Ev (fun _ k n => e9 (Ak k) n r0 r1 x2 x3 s4 r5 r6 r7 x8 x9) o) : Cal 9 [V.agg [X.d (D.list 5 r0), X.d (D.list 14 r1), X.d (D.int IntKind.i64 x2), X.d (D.int IntKind.i64 x3), X.d (D.str
  s4), X.d (D.list 1 r5), X.d (D.list 1 r6), X.d (D.list 8 r7), X.d (D.int IntKind.i64 x8), X.d (D.int IntKind.i64 x9)]] [] o := Ev.call (E := fun Γ n1 => e9 Γ n1 r0 r1 x2 x3 s4 r5 r6 r7 x8
  x9) (fun k => call_step (by kernel_rfl) rfl) h
theorem call11 (x0 : Int) (x1 : Int) (s2 : ByteArray) (r3 : List (List D)) (r4 : List (List D)) (r5 : List (List D)) (x6 : Int) (x7 : Int) {o : Out} (h : Ev (fun _ k n => e11 (Ak k) n x0 x1
  s2 r3 r4 r5 x6 x7) o) : Cal 11 [V.agg [X.d (D.int IntKind.i64 x0), X.d (D.int IntKind.i64 x1), X.d (D.str s2), X.d (D.list 1 r3), X.d (D.list 1 r4), X.d (D.list 8 r5), X.d (D.int
  IntKind.i64 x6), X.d (D.int IntKind.i64 x7)]] [] o := Ev.call (E := fun Γ n1 => e11 Γ n1 x0 x1 s2 r3 r4 r5 x6 x7) (fun k => call_step (by kernel_rfl) rfl) h
theorem call32 (x0 : Int) (x1 : Int) (s2 : ByteArray) (r3 : List (List D)) (r4 : List (List D)) (r5 : List (List D)) (x6 : Int) (x7 : Int) (x8 : Int) {o : Out} (h : Ev (fun _ k n => e32 (Ak
  k) n x0 x1 s2 r3 r4 r5 x6 x7 x8) o) : Cal 32 [V.agg [X.d (D.int IntKind.i64 x0), X.d (D.int IntKind.i64 x1), X.d (D.str s2), X.d (D.list 1 r3), X.d (D.list 1 r4), X.d (D.list 8 r5), X.d
  (D.int IntKind.i64 x6), X.d (D.int IntKind.i64 x7)], V.one (X.d (D.int IntKind.i64 x8))] [] o := Ev.call (E := fun Γ n1 => e32 Γ n1 x0 x1 s2 r3 r4 r5 x6 x7 x8) (fun k => call_step (by
  kernel_rfl) rfl) h
theorem call55 (x0 : Int) (x1 : Int) (s2 : ByteArray) (r3 : List (List D)) (r4 : List (List D)) (r5 : List (List D)) (x6 : Int) (x7 : Int) {o : Out} (h : Ev (fun _ k n => e55 (Ak k) n x0 x1
  s2 r3 r4 r5 x6 x7) o) : Cal 55 [V.agg [X.d (D.int IntKind.i64 x0), X.d (D.int IntKind.i64 x1), X.d (D.str s2), X.d (D.list 1 r3), X.d (D.list 1 r4), X.d (D.list 8 r5), X.d (D.int
  IntKind.i64 x6), X.d (D.int IntKind.i64 x7)]] [] o := Ev.call (E := fun Γ n1 => e55 Γ n1 x0 x1 s2 r3 r4 r5 x6 x7) (fun k => call_step (by kernel_rfl) rfl) h
theorem call26 (s0 : ByteArray) (x1 : Int) (r2 : List (List D)) (x3 : Int) (x4 : Int) {o : Out} (h : Ev (fun _ k n => e26 (Ak k) n s0 x1 r2 x3 x4) o) : Cal 26 [V.agg [X.d (D.str s0), X.d
  (D.int IntKind.i64 x1), X.d (D.list 2 r2), X.d (D.int IntKind.i64 x3), X.d (D.int IntKind.i64 x4)]] [] o := Ev.call (E := fun Γ n1 => e26 Γ n1 s0 x1 r2 x3 x4) (fun k => call_step (by
  kernel_rfl) rfl) h
theorem call27 (s0 : ByteArray) {o : Out} (h : Ev (fun _ k n => e27 (Ak k) n s0) o) : Cal 27 [V.one (X.d (D.str s0))] [] o := Ev.call (E := fun Γ n1 => e27 Γ n1 s0) (fun k => call_step (by
  kernel_rfl) rfl) h
theorem call89 (s0 : ByteArray) {o : Out} (h : Ev (fun _ k n => e89 (Ak k) n s0) o) : Cal 89 [V.one (X.d (D.str s0))] [] o := Ev.call (E := fun Γ n1 => e89 Γ n1 s0) (fun k => call_step (by
  kernel_rfl) rfl) h
theorem call90 (r0 : List (List D)) {o : Out} (h : Ev (fun _ k n => e90 (Ak k) n r0) o) : Cal 90 [V.one (X.d (D.list 1 r0))] [] o := Ev.call (E := fun Γ n1 => e90 Γ n1 r0) (fun k => call_step
  (by kernel_rfl) rfl) h
end Go.Proofs.YtaphnbaiamnfpaaDoor.Ps
