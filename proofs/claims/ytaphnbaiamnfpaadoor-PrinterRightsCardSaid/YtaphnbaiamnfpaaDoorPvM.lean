/- What the pieces of the functions do, as functions of their data. Printed by pack4.py. -/
import Derived.Test.YtaphnbaiamnfpaaDoorPv0
namespace Go.Proofs.YtaphnbaiamnfpaaDoor.Ps
set_option maxHeartbeats 0
set_option maxRecDepth 100000
set_option linter.unusedVariables false
open Go Go.RowKit
noncomputable def e10 (Γ : Bool → SemL) (n1 : Nat) (r0 : List (List D)) (r1 : List (List D)) (x2 : Int) (x3 : Int) (s4 : ByteArray) (r5 : List (List D)) (r6 : List (List D)) (r7 : List (List
  D)) (x8 : Int) (x9 : Int) : Option Out := runF Γ shp rc false (shp 10) sf10 n1 [V.agg [X.d (D.list 5 r0), X.d (D.list 14 r1), X.d (D.int IntKind.i64 x2), X.d (D.int IntKind.i64 x3), X.d
  (D.str s4), X.d (D.list 1 r5), X.d (D.list 1 r6), X.d (D.list 8 r7), X.d (D.int IntKind.i64 x8), X.d (D.int IntKind.i64 x9)]] []
noncomputable def e12 (Γ : Bool → SemL) (n1 : Nat) (x0 : Int) (x1 : Int) (s2 : ByteArray) (r3 : List (List D)) (r4 : List (List D)) (r5 : List (List D)) (x6 : Int) (x7 : Int) : Option Out :=
  runF Γ shp rc false (shp 12) sf12 n1 [V.agg [X.d (D.int IntKind.i64 x0), X.d (D.int IntKind.i64 x1), X.d (D.str s2), X.d (D.list 1 r3), X.d (D.list 1 r4), X.d (D.list 8 r5), X.d (D.int
  IntKind.i64 x6), X.d (D.int IntKind.i64 x7)]] []
noncomputable def e29 (Γ : Bool → SemL) (n1 : Nat) (r0 : List (List D)) : Option Out := runF Γ shp rc false (shp 29) sf29 n1 [V.one (X.d (D.list 5 r0))] []
noncomputable def q10_0 (Γ : Bool → SemL) (n1 : Nat) (r0 : List (List D)) (r1 : List (List D)) (x2 : Int) (x3 : Int) (s4 : ByteArray) (r5 : List (List D)) (r6 : List (List D)) (r7 : List
  (List D)) (x8 : Int) (x9 : Int) : Option Out := Jn (Γ false) shp n1 j10_0 (St.mk [(1, V.one (X.ptr 0 0))] [(0, Blk.mk [Lf.lst 5, Lf.lst 14, Lf.int IntKind.i64, Lf.int IntKind.i64, Lf.str,
  Lf.lst 1, Lf.lst 1, Lf.lst 8, Lf.int IntKind.i64, Lf.int IntKind.i64] [X.d (D.list 5 r0), X.d (D.list 14 r1), X.d (D.int IntKind.i64 x2), X.d (D.int IntKind.i64 x3), X.d (D.str s4), X.d
  (D.list 1 r5), X.d (D.list 1 r6), X.d (D.list 8 r7), X.d (D.int IntKind.i64 x8), X.d (D.int IntKind.i64 x9)])] [] 1 0 0 []) (finK (Γ true) rc false (shp 10) (SFunc.results sf10) 0)
noncomputable def e33 (Γ : Bool → SemL) (n1 : Nat) (x0 : Int) (x1 : Int) (s2 : ByteArray) (r3 : List (List D)) (r4 : List (List D)) (r5 : List (List D)) (x6 : Int) (x7 : Int) (x8 : Int) :
  Option Out := runF Γ shp rc false (shp 33) sf33 n1 [V.agg [X.d (D.int IntKind.i64 x0), X.d (D.int IntKind.i64 x1), X.d (D.str s2), X.d (D.list 1 r3), X.d (D.list 1 r4), X.d (D.list 8 r5),
  X.d (D.int IntKind.i64 x6), X.d (D.int IntKind.i64 x7)], V.one (X.d (D.int IntKind.i64 x8))] []
noncomputable def l29_0 (n0 : Nat) (Γ : Bool → SemL) (n2 : Nat) (r0 : List (List D)) (x1 : Int) : Option Out := loopK (Γ false) shp n0 [0, 3] lb29_0 (St.mk [(0, V.one (X.d (D.list 5 r0))),
  (3, V.one (X.d (D.int IntKind.i64 x1)))] [] [] 0 0 0 []) (kBlk 0 (kSeq (some []) (fun s K => Jn (Γ false) shp n2 j29_2 s K) (finK (Γ true) rc false (shp 29) (SFunc.results sf29) 0)))
noncomputable def l10_0 (n0 : Nat) (Γ : Bool → SemL) (n2 : Nat) (x0 : Int) (r1 : List (List D)) (r2 : List (List D)) (x3 : Int) (x4 : Int) (s5 : ByteArray) (r6 : List (List D)) (r7 : List
  (List D)) (r8 : List (List D)) (x9 : Int) (x10 : Int) : Option Out := loopK (Γ false) shp n0 [1, 3] lb10_0 (St.mk [(1, V.one (X.ptr 0 0)), (3, V.one (X.d (D.int IntKind.i64 x0)))] [(0,
  Blk.mk [Lf.lst 5, Lf.lst 14, Lf.int IntKind.i64, Lf.int IntKind.i64, Lf.str, Lf.lst 1, Lf.lst 1, Lf.lst 8, Lf.int IntKind.i64, Lf.int IntKind.i64] [X.d (D.list 5 r1), X.d (D.list 14 r2),
  X.d (D.int IntKind.i64 x3), X.d (D.int IntKind.i64 x4), X.d (D.str s5), X.d (D.list 1 r6), X.d (D.list 1 r7), X.d (D.list 8 r8), X.d (D.int IntKind.i64 x9), X.d (D.int IntKind.i64 x10)])]
  [] 1 0 0 []) (kBlk 0 (kSeq (some [1]) (fun s K => Jn (Γ false) shp n2 j10_3 s K) (finK (Γ true) rc false (shp 10) (SFunc.results sf10) 0)))
noncomputable def e56 (Γ : Bool → SemL) (n1 : Nat) (x0 : Int) (x1 : Int) (s2 : ByteArray) (r3 : List (List D)) (r4 : List (List D)) (r5 : List (List D)) (x6 : Int) (x7 : Int) : Option Out :=
  runF Γ shp rc false (shp 56) sf56 n1 [V.agg [X.d (D.int IntKind.i64 x0), X.d (D.int IntKind.i64 x1), X.d (D.str s2), X.d (D.list 1 r3), X.d (D.list 1 r4), X.d (D.list 8 r5), X.d (D.int
  IntKind.i64 x6), X.d (D.int IntKind.i64 x7)]] []
noncomputable def q33_0 (Γ : Bool → SemL) (n1 : Nat) (x0 : Int) (x1 : Int) (x2 : Int) (s3 : ByteArray) (r4 : List (List D)) (r5 : List (List D)) (r6 : List (List D)) (x7 : Int) (x8 : Int) :
  Option Out := Jn (Γ false) shp n1 j33_0 (St.mk [(1, V.one (X.d (D.int IntKind.i64 x0))), (2, V.one (X.ptr 0 0))] [(0, Blk.mk [Lf.int IntKind.i64, Lf.int IntKind.i64, Lf.str, Lf.lst 1,
  Lf.lst 1, Lf.lst 8, Lf.int IntKind.i64, Lf.int IntKind.i64] [X.d (D.int IntKind.i64 x1), X.d (D.int IntKind.i64 x2), X.d (D.str s3), X.d (D.list 1 r4), X.d (D.list 1 r5), X.d (D.list 8 r6),
  X.d (D.int IntKind.i64 x7), X.d (D.int IntKind.i64 x8)])] [] 1 0 0 []) (finK (Γ true) rc false (shp 33) (SFunc.results sf33) 0)
noncomputable def q29_0 (Γ : Bool → SemL) (n1 : Nat) (n2 : Nat) (r0 : List (List D)) (x1 : Int) : Option Out := Jn (Γ false) shp n1 j29_0 (St.mk [(0, V.one (X.d (D.list 5 r0))), (3, V.one
  (X.d (D.int IntKind.i64 x1)))] [] [] 0 0 0 []) (kLoop (loopK (Γ false) shp n1) [0, 3] lb29_0 (kBlk 0 (kSeq (some []) (fun s K => Jn (Γ false) shp n2 j29_2 s K) (finK (Γ true) rc false (shp
  29) (SFunc.results sf29) 0))))
noncomputable def q29_2 (Γ : Bool → SemL) (n1 : Nat) : Option Out := Jn (Γ false) shp n1 j29_2 (St.mk [] [] [] 0 0 0 []) (finK (Γ true) rc false (shp 29) (SFunc.results sf29) 0)
noncomputable def q10_1 (Γ : Bool → SemL) (n1 : Nat) (n2 : Nat) (x0 : Int) (r1 : List (List D)) (r2 : List (List D)) (x3 : Int) (x4 : Int) (s5 : ByteArray) (r6 : List (List D)) (r7 : List
  (List D)) (r8 : List (List D)) (x9 : Int) (x10 : Int) : Option Out := Jn (Γ false) shp n1 j10_1 (St.mk [(1, V.one (X.ptr 0 0)), (3, V.one (X.d (D.int IntKind.i64 x0)))] [(0, Blk.mk [Lf.lst
  5, Lf.lst 14, Lf.int IntKind.i64, Lf.int IntKind.i64, Lf.str, Lf.lst 1, Lf.lst 1, Lf.lst 8, Lf.int IntKind.i64, Lf.int IntKind.i64] [X.d (D.list 5 r1), X.d (D.list 14 r2), X.d (D.int
  IntKind.i64 x3), X.d (D.int IntKind.i64 x4), X.d (D.str s5), X.d (D.list 1 r6), X.d (D.list 1 r7), X.d (D.list 8 r8), X.d (D.int IntKind.i64 x9), X.d (D.int IntKind.i64 x10)])] [] 1 0 0 [])
  (kLoop (loopK (Γ false) shp n1) [1, 3] lb10_0 (kBlk 0 (kSeq (some [1]) (fun s K => Jn (Γ false) shp n2 j10_3 s K) (finK (Γ true) rc false (shp 10) (SFunc.results sf10) 0))))
noncomputable def q10_3 (Γ : Bool → SemL) (n1 : Nat) (r0 : List (List D)) (r1 : List (List D)) (x2 : Int) (x3 : Int) (s4 : ByteArray) (r5 : List (List D)) (r6 : List (List D)) (r7 : List
  (List D)) (x8 : Int) (x9 : Int) : Option Out := Jn (Γ false) shp n1 j10_3 (St.mk [(1, V.one (X.ptr 0 0))] [(0, Blk.mk [Lf.lst 5, Lf.lst 14, Lf.int IntKind.i64, Lf.int IntKind.i64, Lf.str,
  Lf.lst 1, Lf.lst 1, Lf.lst 8, Lf.int IntKind.i64, Lf.int IntKind.i64] [X.d (D.list 5 r0), X.d (D.list 14 r1), X.d (D.int IntKind.i64 x2), X.d (D.int IntKind.i64 x3), X.d (D.str s4), X.d
  (D.list 1 r5), X.d (D.list 1 r6), X.d (D.list 8 r7), X.d (D.int IntKind.i64 x8), X.d (D.int IntKind.i64 x9)])] [] 1 0 0 []) (finK (Γ true) rc false (shp 10) (SFunc.results sf10) 0)
noncomputable def e91 (Γ : Bool → SemL) (n1 : Nat) (s0 : ByteArray) : Option Out := runF Γ shp rc false (shp 91) sf91 n1 [V.one (X.d (D.str s0))] []
noncomputable def e92 (Γ : Bool → SemL) (n1 : Nat) (r0 : List (List D)) : Option Out := runF Γ shp rc false (shp 92) sf92 n1 [V.one (X.d (D.list 1 r0))] []
noncomputable def e93 (Γ : Bool → SemL) (n1 : Nat) (r0 : List (List D)) (x1 : Int) (x2 : Int) : Option Out := runF Γ shp rc false (shp 93) sf93 n1 [V.one (X.d (D.list 1 r0)), V.one (X.d
  (D.int IntKind.i64 x1)), V.one (X.d (D.int IntKind.i64 x2))] []
noncomputable def q56_0 (Γ : Bool → SemL) (n1 : Nat) : Option Out := Jn (Γ false) shp n1 j56_0 (St.mk [] [] [] 0 0 0 []) (finK (Γ true) rc false (shp 56) (SFunc.results sf56) 0)
noncomputable def l33_0 (n0 : Nat) (Γ : Bool → SemL) (n2 : Nat) (x0 : Int) (x1 : Int) (x2 : Int) (x3 : Int) (s4 : ByteArray) (r5 : List (List D)) (r6 : List (List D)) (r7 : List (List D)) (x8
  : Int) (x9 : Int) : Option Out := loopK (Γ false) shp n0 [1, 2, 5] lb33_0 (St.mk [(1, V.one (X.d (D.int IntKind.i64 x0))), (2, V.one (X.ptr 0 0)), (5, V.one (X.d (D.int IntKind.i64 x1)))]
  [(0, Blk.mk [Lf.int IntKind.i64, Lf.int IntKind.i64, Lf.str, Lf.lst 1, Lf.lst 1, Lf.lst 8, Lf.int IntKind.i64, Lf.int IntKind.i64] [X.d (D.int IntKind.i64 x2), X.d (D.int IntKind.i64 x3),
  X.d (D.str s4), X.d (D.list 1 r5), X.d (D.list 1 r6), X.d (D.list 8 r7), X.d (D.int IntKind.i64 x8), X.d (D.int IntKind.i64 x9)])] [] 1 0 0 []) (kBlk 0 (kSeq (some []) (fun s K => Jn (Γ
  false) shp n2 j33_3 s K) (finK (Γ true) rc false (shp 33) (SFunc.results sf33) 0)))
noncomputable def q29_1 (Γ : Bool → SemL) (n1 : Nat) (n2 : Nat) (r0 : List (List D)) (x1 : Int) : Option Out := Jn (Γ false) shp n1 j29_1 (St.mk [(0, V.one (X.d (D.list 5 r0))), (3, V.one
  (X.d (D.int IntKind.i64 x1)))] [] [] 0 0 0 []) (kLoop (loopK (Γ false) shp n1) [0, 3] lb29_0 (kBlk 0 (kSeq (some []) (fun s K => Jn (Γ false) shp n2 j29_2 s K) (finK (Γ true) rc false (shp
  29) (SFunc.results sf29) 0))))
noncomputable def q10_2 (Γ : Bool → SemL) (n1 : Nat) (n2 : Nat) (x0 : Int) (r1 : List (List D)) (r2 : List (List D)) (x3 : Int) (x4 : Int) (s5 : ByteArray) (r6 : List (List D)) (r7 : List
  (List D)) (r8 : List (List D)) (x9 : Int) (x10 : Int) : Option Out := Jn (Γ false) shp n1 j10_2 (St.mk [(1, V.one (X.ptr 0 0)), (3, V.one (X.d (D.int IntKind.i64 x0)))] [(0, Blk.mk [Lf.lst
  5, Lf.lst 14, Lf.int IntKind.i64, Lf.int IntKind.i64, Lf.str, Lf.lst 1, Lf.lst 1, Lf.lst 8, Lf.int IntKind.i64, Lf.int IntKind.i64] [X.d (D.list 5 r1), X.d (D.list 14 r2), X.d (D.int
  IntKind.i64 x3), X.d (D.int IntKind.i64 x4), X.d (D.str s5), X.d (D.list 1 r6), X.d (D.list 1 r7), X.d (D.list 8 r8), X.d (D.int IntKind.i64 x9), X.d (D.int IntKind.i64 x10)])] [] 1 0 0 [])
  (kLoop (loopK (Γ false) shp n1) [1, 3] lb10_0 (kBlk 0 (kSeq (some [1]) (fun s K => Jn (Γ false) shp n2 j10_3 s K) (finK (Γ true) rc false (shp 10) (SFunc.results sf10) 0))))
noncomputable def q91_0 (Γ : Bool → SemL) (n1 : Nat) (s0 : ByteArray) (b1 : Bool) : Option Out := Jn (Γ false) shp n1 j91_0 (St.mk [(3, V.one (X.d (D.str s0))), (8, V.one (X.d (D.bool b1)))]
  [] [] 0 0 0 []) (kBlk 0 (kSeq (some []) (fun s K => Jn (Γ false) shp n1 j91_4 s K) (finK (Γ true) rc false (shp 91) (SFunc.results sf91) 0)))
noncomputable def l92_0 (n0 : Nat) (Γ : Bool → SemL) (n2 : Nat) (r0 : List (List D)) (x1 : Int) : Option Out := loopK (Γ false) shp n0 [0, 3] lb92_0 (St.mk [(0, V.one (X.d (D.list 1 r0))),
  (3, V.one (X.d (D.int IntKind.i64 x1)))] [] [] 0 0 0 []) (kBlk 0 (kSeq (some []) (fun s K => Jn (Γ false) shp n2 j92_2 s K) (finK (Γ true) rc false (shp 92) (SFunc.results sf92) 0)))
noncomputable def l93_0 (n0 : Nat) (Γ : Bool → SemL) (n2 : Nat) (r0 : List (List D)) (x1 : Int) (x2 : Int) (x3 : Int) : Option Out := loopK (Γ false) shp n0 [0, 1, 2, 7] lb93_0 (St.mk [(0,
  V.one (X.d (D.list 1 r0))), (1, V.one (X.d (D.int IntKind.i64 x1))), (2, V.one (X.d (D.int IntKind.i64 x2))), (7, V.one (X.d (D.int IntKind.i64 x3)))] [] [] 0 0 0 []) (kBlk 0 (kSeq (some
  []) (fun s K => Jn (Γ false) shp n2 j93_2 s K) (finK (Γ true) rc false (shp 93) (SFunc.results sf93) 0)))
noncomputable def q33_1 (Γ : Bool → SemL) (n1 : Nat) (n2 : Nat) (x0 : Int) (x1 : Int) (x2 : Int) (x3 : Int) (s4 : ByteArray) (r5 : List (List D)) (r6 : List (List D)) (r7 : List (List D)) (x8
  : Int) (x9 : Int) : Option Out := Jn (Γ false) shp n1 j33_1 (St.mk [(1, V.one (X.d (D.int IntKind.i64 x0))), (2, V.one (X.ptr 0 0)), (5, V.one (X.d (D.int IntKind.i64 x1)))] [(0, Blk.mk
  [Lf.int IntKind.i64, Lf.int IntKind.i64, Lf.str, Lf.lst 1, Lf.lst 1, Lf.lst 8, Lf.int IntKind.i64, Lf.int IntKind.i64] [X.d (D.int IntKind.i64 x2), X.d (D.int IntKind.i64 x3), X.d (D.str
  s4), X.d (D.list 1 r5), X.d (D.list 1 r6), X.d (D.list 8 r7), X.d (D.int IntKind.i64 x8), X.d (D.int IntKind.i64 x9)])] [] 1 0 0 []) (kLoop (loopK (Γ false) shp n1) [1, 2, 5] lb33_0 (kBlk 0
  (kSeq (some []) (fun s K => Jn (Γ false) shp n2 j33_3 s K) (finK (Γ true) rc false (shp 33) (SFunc.results sf33) 0))))
noncomputable def q33_3 (Γ : Bool → SemL) (n1 : Nat) : Option Out := Jn (Γ false) shp n1 j33_3 (St.mk [] [] [] 0 0 0 []) (finK (Γ true) rc false (shp 33) (SFunc.results sf33) 0)
noncomputable def q91_1 (Γ : Bool → SemL) (n1 : Nat) (s0 : ByteArray) (b1 : Bool) : Option Out := Jn (Γ false) shp n1 j91_1 (St.mk [(3, V.one (X.d (D.str s0))), (14, V.one (X.d (D.bool b1)))]
  [] [] 0 0 0 []) (kBlk 0 (kSeq (some []) (fun s K => Jn (Γ false) shp n1 j91_4 s K) (finK (Γ true) rc false (shp 91) (SFunc.results sf91) 0)))
noncomputable def q92_0 (Γ : Bool → SemL) (n1 : Nat) (n2 : Nat) (r0 : List (List D)) (x1 : Int) : Option Out := Jn (Γ false) shp n1 j92_0 (St.mk [(0, V.one (X.d (D.list 1 r0))), (3, V.one
  (X.d (D.int IntKind.i64 x1)))] [] [] 0 0 0 []) (kLoop (loopK (Γ false) shp n1) [0, 3] lb92_0 (kBlk 0 (kSeq (some []) (fun s K => Jn (Γ false) shp n2 j92_2 s K) (finK (Γ true) rc false (shp
  92) (SFunc.results sf92) 0))))
noncomputable def q92_2 (Γ : Bool → SemL) (n1 : Nat) : Option Out := Jn (Γ false) shp n1 j92_2 (St.mk [] [] [] 0 0 0 []) (finK (Γ true) rc false (shp 92) (SFunc.results sf92) 0)
noncomputable def q93_0 (Γ : Bool → SemL) (n1 : Nat) (n2 : Nat) (r0 : List (List D)) (x1 : Int) (x2 : Int) (x3 : Int) : Option Out := Jn (Γ false) shp n1 j93_0 (St.mk [(0, V.one (X.d (D.list
  1 r0))), (1, V.one (X.d (D.int IntKind.i64 x1))), (2, V.one (X.d (D.int IntKind.i64 x2))), (7, V.one (X.d (D.int IntKind.i64 x3)))] [] [] 0 0 0 []) (kLoop (loopK (Γ false) shp n1) [0, 1, 2,
  7] lb93_0 (kBlk 0 (kSeq (some []) (fun s K => Jn (Γ false) shp n2 j93_2 s K) (finK (Γ true) rc false (shp 93) (SFunc.results sf93) 0))))
noncomputable def q93_2 (Γ : Bool → SemL) (n1 : Nat) : Option Out := Jn (Γ false) shp n1 j93_2 (St.mk [] [] [] 0 0 0 []) (finK (Γ true) rc false (shp 93) (SFunc.results sf93) 0)
noncomputable def q33_2 (Γ : Bool → SemL) (n1 : Nat) (n2 : Nat) (x0 : Int) (x1 : Int) (x2 : Int) (x3 : Int) (s4 : ByteArray) (r5 : List (List D)) (r6 : List (List D)) (r7 : List (List D)) (x8
  : Int) (x9 : Int) : Option Out := Jn (Γ false) shp n1 j33_2 (St.mk [(1, V.one (X.d (D.int IntKind.i64 x0))), (2, V.one (X.ptr 0 0)), (5, V.one (X.d (D.int IntKind.i64 x1)))] [(0, Blk.mk
  [Lf.int IntKind.i64, Lf.int IntKind.i64, Lf.str, Lf.lst 1, Lf.lst 1, Lf.lst 8, Lf.int IntKind.i64, Lf.int IntKind.i64] [X.d (D.int IntKind.i64 x2), X.d (D.int IntKind.i64 x3), X.d (D.str
  s4), X.d (D.list 1 r5), X.d (D.list 1 r6), X.d (D.list 8 r7), X.d (D.int IntKind.i64 x8), X.d (D.int IntKind.i64 x9)])] [] 1 0 0 []) (kLoop (loopK (Γ false) shp n1) [1, 2, 5] lb33_0 (kBlk 0
  (kSeq (some []) (fun s K => Jn (Γ false) shp n2 j33_3 s K) (finK (Γ true) rc false (shp 33) (SFunc.results sf33) 0))))
noncomputable def q91_2 (Γ : Bool → SemL) (n1 : Nat) (s0 : ByteArray) (b1 : Bool) : Option Out := Jn (Γ false) shp n1 j91_2 (St.mk [(3, V.one (X.d (D.str s0))), (17, V.one (X.d (D.bool b1)))]
  [] [] 0 0 0 []) (kBlk 0 (kSeq (some []) (fun s K => Jn (Γ false) shp n1 j91_4 s K) (finK (Γ true) rc false (shp 91) (SFunc.results sf91) 0)))
noncomputable def q92_1 (Γ : Bool → SemL) (n1 : Nat) (n2 : Nat) (r0 : List (List D)) (x1 : Int) : Option Out := Jn (Γ false) shp n1 j92_1 (St.mk [(0, V.one (X.d (D.list 1 r0))), (3, V.one
  (X.d (D.int IntKind.i64 x1)))] [] [] 0 0 0 []) (kLoop (loopK (Γ false) shp n1) [0, 3] lb92_0 (kBlk 0 (kSeq (some []) (fun s K => Jn (Γ false) shp n2 j92_2 s K) (finK (Γ true) rc false (shp
  92) (SFunc.results sf92) 0))))
noncomputable def q93_1 (Γ : Bool → SemL) (n1 : Nat) (n2 : Nat) (r0 : List (List D)) (x1 : Int) (x2 : Int) (x3 : Int) : Option Out := Jn (Γ false) shp n1 j93_1 (St.mk [(0, V.one (X.d (D.list
  1 r0))), (1, V.one (X.d (D.int IntKind.i64 x1))), (2, V.one (X.d (D.int IntKind.i64 x2))), (7, V.one (X.d (D.int IntKind.i64 x3)))] [] [] 0 0 0 []) (kLoop (loopK (Γ false) shp n1) [0, 1, 2,
  7] lb93_0 (kBlk 0 (kSeq (some []) (fun s K => Jn (Γ false) shp n2 j93_2 s K) (finK (Γ true) rc false (shp 93) (SFunc.results sf93) 0))))
noncomputable def q91_3 (Γ : Bool → SemL) (n1 : Nat) (b0 : Bool) : Option Out := Jn (Γ false) shp n1 j91_3 (St.mk [(21, V.one (X.d (D.bool b0)))] [] [] 0 0 0 []) (kBlk 0 (kSeq (some []) (fun
  s K => Jn (Γ false) shp n1 j91_4 s K) (finK (Γ true) rc false (shp 91) (SFunc.results sf91) 0)))
noncomputable def q91_4 (Γ : Bool → SemL) (n1 : Nat) : Option Out := Jn (Γ false) shp n1 j91_4 (St.mk [] [] [] 0 0 0 []) (finK (Γ true) rc false (shp 91) (SFunc.results sf91) 0)
theorem e10_eq (Γ : Bool → SemL) (n1 : Nat) (r0 : List (List D)) (r1 : List (List D)) (x2 : Int) (x3 : Int) (s4 : ByteArray) (r5 : List (List D)) (r6 : List (List D)) (r7 : List (List D)) (x8
  : Int) (x9 : Int) : e10 Γ n1 r0 r1 x2 x3 s4 r5 r6 r7 x8 x9 = r_oB (Γ false 29 [V.one (X.d (D.list 5 r0))] []) (fun c0_ => bif !c0_ then some (Out.mk true (V.one (X.d (D.bool false))) D.junk
  [] 0) else q10_0 Γ n1 r0 r1 x2 x3 s4 r5 r6 r7 x8 x9) fun d1_ => some (Out.mk false V.junk d1_ [] 0) := (run_step ..).trans (by kernel_rfl)
theorem e12_eq (Γ : Bool → SemL) (n1 : Nat) (x0 : Int) (x1 : Int) (s2 : ByteArray) (r3 : List (List D)) (r4 : List (List D)) (r5 : List (List D)) (x6 : Int) (x7 : Int) : e12 Γ n1 x0 x1 s2 r3
  r4 r5 x6 x7 = r_oB (Γ false 33 [V.agg [X.d (D.int IntKind.i64 x0), X.d (D.int IntKind.i64 x1), X.d (D.str s2), X.d (D.list 1 r3), X.d (D.list 1 r4), X.d (D.list 8 r5), X.d (D.int
  IntKind.i64 x6), X.d (D.int IntKind.i64 x7)], V.one (X.d (D.int IntKind.i64 40))] []) (fun c0_ => some (Out.mk true (V.one (X.d (D.bool c0_))) D.junk [] 0)) fun d1_ => some (Out.mk false
  V.junk d1_ [] 0) := (run_step ..).trans (by kernel_rfl)
theorem e29_eq (Γ : Bool → SemL) (n1 : Nat) (r0 : List (List D)) : e29 Γ n1 r0 = l29_0 n1 Γ n1 r0 0 := (run_step ..).trans (by kernel_rfl)
theorem q10_0_eq (Γ : Bool → SemL) (n1 : Nat) (r0 : List (List D)) (r1 : List (List D)) (x2 : Int) (x3 : Int) (s4 : ByteArray) (r5 : List (List D)) (r6 : List (List D)) (r7 : List (List D))
  (x8 : Int) (x9 : Int) : q10_0 Γ n1 r0 r1 x2 x3 s4 r5 r6 r7 x8 x9 = l10_0 n1 Γ n1 0 r0 r1 x2 x3 s4 r5 r6 r7 x8 x9 := (Jn_step ..).trans (by kernel_rfl)
theorem e33_eq (Γ : Bool → SemL) (n1 : Nat) (x0 : Int) (x1 : Int) (s2 : ByteArray) (r3 : List (List D)) (r4 : List (List D)) (r5 : List (List D)) (x6 : Int) (x7 : Int) (x8 : Int) : e33 Γ n1
  x0 x1 s2 r3 r4 r5 x6 x7 x8 = bif decide (x8 < 1) then some (Out.mk true (V.one (X.d (D.bool false))) D.junk [] 0) else r_oB (Γ false 56 [V.agg [X.d (D.int IntKind.i64 x0), X.d (D.int
  IntKind.i64 x1), X.d (D.str s2), X.d (D.list 1 r3), X.d (D.list 1 r4), X.d (D.list 8 r5), X.d (D.int IntKind.i64 x6), X.d (D.int IntKind.i64 x7)]] []) (fun c0_ => bif !c0_ then some (Out.mk
  true (V.one (X.d (D.bool false))) D.junk [] 0) else q33_0 Γ n1 x8 x0 x1 s2 r3 r4 r5 x6 x7) fun d1_ => some (Out.mk false V.junk d1_ [] 0) := (run_step ..).trans (by kernel_rfl)
theorem l29_0_eq (n0 : Nat) (Γ : Bool → SemL) (n2 : Nat) (r0 : List (List D)) (x1 : Int) : l29_0 (n0 + 1) Γ n2 r0 x1 = bif decide (x1 < Int.ofNat (List.length r0)) then q29_0 Γ n0 n2 r0 x1
  else q29_2 Γ n2 := (loop_step ..).trans (by kernel_rfl)
theorem l10_0_eq (n0 : Nat) (Γ : Bool → SemL) (n2 : Nat) (x0 : Int) (r1 : List (List D)) (r2 : List (List D)) (x3 : Int) (x4 : Int) (s5 : ByteArray) (r6 : List (List D)) (r7 : List (List D))
  (r8 : List (List D)) (x9 : Int) (x10 : Int) : l10_0 (n0 + 1) Γ n2 x0 r1 r2 x3 x4 s5 r6 r7 r8 x9 x10 = bif decide (x0 < Int.ofNat (List.length r2)) then q10_1 Γ n0 n2 x0 r1 r2 x3 x4 s5 r6 r7
  r8 x9 x10 else q10_3 Γ n2 r1 r2 x3 x4 s5 r6 r7 r8 x9 x10 := (loop_step ..).trans (by kernel_rfl)
theorem e56_eq (Γ : Bool → SemL) (n1 : Nat) (x0 : Int) (x1 : Int) (s2 : ByteArray) (r3 : List (List D)) (r4 : List (List D)) (r5 : List (List D)) (x6 : Int) (x7 : Int) : e56 Γ n1 x0 x1 s2 r3
  r4 r5 x6 x7 = bif Int.ofNat (List.length r3) == 0 then bif beqL (Array.toList (ByteArray.data s2)) (Array.toList (ByteArray.data (ByteArray.mk #[]))) then bif x0 == 1 then bif Int.ofNat
  (List.length r4) == 0 then bif Int.ofNat (List.length r5) == 0 then bif beqL (Array.toList (ByteArray.data s2)) (Array.toList (ByteArray.data (ByteArray.mk #[]))) then bif decide (x1 ≥ 0)
  then some (Out.mk true (V.one (X.d (D.bool (decide (x1 ≤ 2147483647))))) D.junk [] 0) else some (Out.mk true (V.one (X.d (D.bool false))) D.junk [] 0) else some (Out.mk true (V.one (X.d
  (D.bool false))) D.junk [] 0) else some (Out.mk true (V.one (X.d (D.bool false))) D.junk [] 0) else some (Out.mk true (V.one (X.d (D.bool false))) D.junk [] 0) else bif x0 == 2 then bif
  Int.ofNat (List.length r4) == 0 then bif Int.ofNat (List.length r5) == 0 then bif beqL (Array.toList (ByteArray.data s2)) (Array.toList (ByteArray.data (ByteArray.mk #[]))) then bif x1 == 0
  then some (Out.mk true (V.one (X.d (D.bool true))) D.junk [] 0) else some (Out.mk true (V.one (X.d (D.bool (x1 == 1)))) D.junk [] 0) else some (Out.mk true (V.one (X.d (D.bool false)))
  D.junk [] 0) else some (Out.mk true (V.one (X.d (D.bool false))) D.junk [] 0) else some (Out.mk true (V.one (X.d (D.bool false))) D.junk [] 0) else bif x0 == 3 then bif Int.ofNat
  (List.length r4) == 0 then bif Int.ofNat (List.length r5) == 0 then bif x1 == 0 then r_oB (Γ false 30 [V.one (X.d (D.str s2)), V.one (X.d (D.bool false))] []) (fun c0_ => some (Out.mk true
  (V.one (X.d (D.bool c0_))) D.junk [] 0)) fun d1_ => some (Out.mk false V.junk d1_ [] 0) else some (Out.mk true (V.one (X.d (D.bool false))) D.junk [] 0) else some (Out.mk true (V.one (X.d
  (D.bool false))) D.junk [] 0) else some (Out.mk true (V.one (X.d (D.bool false))) D.junk [] 0) else bif x0 == 4 then bif Int.ofNat (List.length r4) == 0 then bif x1 == 0 then r_oB (Γ false
  30 [V.one (X.d (D.str s2)), V.one (X.d (D.bool false))] []) (fun c2_ => some (Out.mk true (V.one (X.d (D.bool c2_))) D.junk [] 0)) fun d3_ => some (Out.mk false V.junk d3_ [] 0) else some
  (Out.mk true (V.one (X.d (D.bool false))) D.junk [] 0) else some (Out.mk true (V.one (X.d (D.bool false))) D.junk [] 0) else bif x0 == 5 then bif Int.ofNat (List.length r4) == 0 then bif x1
  == 0 then bif decide (Int.ofNat (List.length r5) ≥ 2) then some (Out.mk true (V.one (X.d (D.bool (decide (Int.ofNat (List.length r5) ≤ 4))))) D.junk [] 0) else some (Out.mk true (V.one (X.d
  (D.bool false))) D.junk [] 0) else some (Out.mk true (V.one (X.d (D.bool false))) D.junk [] 0) else some (Out.mk true (V.one (X.d (D.bool false))) D.junk [] 0) else bif x0 == 6 then bif
  Int.ofNat (List.length r4) == 0 then some (Out.mk true (V.one (X.d (D.bool (x1 == 0)))) D.junk [] 0) else some (Out.mk true (V.one (X.d (D.bool false))) D.junk [] 0) else bif x0 == 7 then
  r_oI (Γ false 91 [V.one (X.d (D.str s2))] []) (fun i4_ => bif Int.ofNat (List.length r4) == 0 then bif x1 == 0 then bif decide (i4_ > 0) then bif i4_ == 7 then bif Int.ofNat (List.length
  r5) == 1 then some (Out.mk true (V.one (X.d (D.bool true))) D.junk [] 0) else bif decide (i4_ < 7) then some (Out.mk true (V.one (X.d (D.bool (Int.ofNat (List.length r5) == 2)))) D.junk []
  0) else some (Out.mk true (V.one (X.d (D.bool false))) D.junk [] 0) else bif decide (i4_ < 7) then some (Out.mk true (V.one (X.d (D.bool (Int.ofNat (List.length r5) == 2)))) D.junk [] 0)
  else some (Out.mk true (V.one (X.d (D.bool false))) D.junk [] 0) else some (Out.mk true (V.one (X.d (D.bool false))) D.junk [] 0) else some (Out.mk true (V.one (X.d (D.bool false))) D.junk
  [] 0) else some (Out.mk true (V.one (X.d (D.bool false))) D.junk [] 0)) fun d5_ => some (Out.mk false V.junk d5_ [] 0) else bif x0 == 8 then bif x1 == 0 then bif Int.ofNat (List.length r4)
  == 0 then bif Int.ofNat (List.length r5) == 2 then bif decide (Int.ofNat (List.length r3) ≥ 1) then bif decide (Int.ofNat (List.length r3) ≤ 4) then r_oB (Γ false 92 [V.one (X.d (D.list 1
  r3))] []) (fun c6_ => some (Out.mk true (V.one (X.d (D.bool c6_))) D.junk [] 0)) fun d7_ => some (Out.mk false V.junk d7_ [] 0) else some (Out.mk true (V.one (X.d (D.bool false))) D.junk []
  0) else some (Out.mk true (V.one (X.d (D.bool false))) D.junk [] 0) else some (Out.mk true (V.one (X.d (D.bool false))) D.junk [] 0) else some (Out.mk true (V.one (X.d (D.bool false)))
  D.junk [] 0) else some (Out.mk true (V.one (X.d (D.bool false))) D.junk [] 0) else bif x0 == 9 then bif Int.ofNat (List.length r4) == 0 then bif x1 == 0 then some (Out.mk true (V.one (X.d
  (D.bool (Int.ofNat (List.length r5) == 3)))) D.junk [] 0) else some (Out.mk true (V.one (X.d (D.bool false))) D.junk [] 0) else some (Out.mk true (V.one (X.d (D.bool false))) D.junk [] 0)
  else bif x0 == 10 then bif x1 == 0 then bif Int.ofNat (List.length r4) == 0 then bif Int.ofNat (List.length r5) == 3 then bif Int.ofNat (List.length r3) == 2 then r_oB (Γ false 92 [V.one
  (X.d (D.list 1 r3))] []) (fun c8_ => some (Out.mk true (V.one (X.d (D.bool c8_))) D.junk [] 0)) fun d9_ => some (Out.mk false V.junk d9_ [] 0) else some (Out.mk true (V.one (X.d (D.bool
  false))) D.junk [] 0) else some (Out.mk true (V.one (X.d (D.bool false))) D.junk [] 0) else some (Out.mk true (V.one (X.d (D.bool false))) D.junk [] 0) else some (Out.mk true (V.one (X.d
  (D.bool false))) D.junk [] 0) else bif x0 == 11 then bif Int.ofNat (List.length r4) == 0 then bif x1 == 0 then some (Out.mk true (V.one (X.d (D.bool (Int.ofNat (List.length r5) == 2))))
  D.junk [] 0) else some (Out.mk true (V.one (X.d (D.bool false))) D.junk [] 0) else some (Out.mk true (V.one (X.d (D.bool false))) D.junk [] 0) else bif x0 == 12 then bif x1 == 0 then bif
  Int.ofNat (List.length r3) == 0 then bif Int.ofNat (List.length r5) == 1 then bif Int.ofNat (List.length r4) == 2 then r_oB (Γ false 93 [V.one (X.d (D.list 1 r4)), V.one (X.d (D.int
  IntKind.i64 0)), V.one (X.d (D.int IntKind.i64 2147483647))] []) (fun c10_ => some (Out.mk true (V.one (X.d (D.bool c10_))) D.junk [] 0)) fun d11_ => some (Out.mk false V.junk d11_ [] 0)
  else some (Out.mk true (V.one (X.d (D.bool false))) D.junk [] 0) else some (Out.mk true (V.one (X.d (D.bool false))) D.junk [] 0) else some (Out.mk true (V.one (X.d (D.bool false))) D.junk
  [] 0) else some (Out.mk true (V.one (X.d (D.bool false))) D.junk [] 0) else bif x0 == 13 then bif x1 == 0 then bif Int.ofNat (List.length r3) == 0 then bif decide (Int.ofNat (List.length
  r5) ≥ 1) then bif Int.ofNat (List.length r4) == Int.ofNat (List.length r5) then r_oB (Γ false 93 [V.one (X.d (D.list 1 r4)), V.one (X.d (D.int IntKind.i64 0)), V.one (X.d (D.int IntKind.i64
  2147483647))] []) (fun c12_ => some (Out.mk true (V.one (X.d (D.bool c12_))) D.junk [] 0)) fun d13_ => some (Out.mk false V.junk d13_ [] 0) else some (Out.mk true (V.one (X.d (D.bool
  false))) D.junk [] 0) else some (Out.mk true (V.one (X.d (D.bool false))) D.junk [] 0) else some (Out.mk true (V.one (X.d (D.bool false))) D.junk [] 0) else some (Out.mk true (V.one (X.d
  (D.bool false))) D.junk [] 0) else bif x0 == 14 then bif x1 == 0 then bif Int.ofNat (List.length r3) == 0 then bif Int.ofNat (List.length r5) == 0 then bif Int.ofNat (List.length r4) == 2
  then r_oB (Γ false 93 [V.one (X.d (D.list 1 r4)), V.one (X.d (D.int IntKind.i64 0)), V.one (X.d (D.int IntKind.i64 2147483647))] []) (fun c14_ => some (Out.mk true (V.one (X.d (D.bool
  c14_))) D.junk [] 0)) fun d15_ => some (Out.mk false V.junk d15_ [] 0) else some (Out.mk true (V.one (X.d (D.bool false))) D.junk [] 0) else some (Out.mk true (V.one (X.d (D.bool false)))
  D.junk [] 0) else some (Out.mk true (V.one (X.d (D.bool false))) D.junk [] 0) else some (Out.mk true (V.one (X.d (D.bool false))) D.junk [] 0) else bif x0 == 15 then bif x1 == 0 then bif
  Int.ofNat (List.length r3) == 0 then bif Int.ofNat (List.length r5) == 0 then bif Int.ofNat (List.length r4) == 2 then r_oB (Γ false 93 [V.one (X.d (D.list 1 r4)), V.one (X.d (D.int
  IntKind.i64 (-2147483647))), V.one (X.d (D.int IntKind.i64 2147483647))] []) (fun c16_ => some (Out.mk true (V.one (X.d (D.bool c16_))) D.junk [] 0)) fun d17_ => some (Out.mk false V.junk
  d17_ [] 0) else some (Out.mk true (V.one (X.d (D.bool false))) D.junk [] 0) else some (Out.mk true (V.one (X.d (D.bool false))) D.junk [] 0) else some (Out.mk true (V.one (X.d (D.bool
  false))) D.junk [] 0) else some (Out.mk true (V.one (X.d (D.bool false))) D.junk [] 0) else q56_0 Γ n1 else bif x0 == 1 then bif Int.ofNat (List.length r4) == 0 then bif Int.ofNat
  (List.length r5) == 0 then bif beqL (Array.toList (ByteArray.data s2)) (Array.toList (ByteArray.data (ByteArray.mk #[]))) then bif decide (x1 ≥ 0) then some (Out.mk true (V.one (X.d (D.bool
  (decide (x1 ≤ 2147483647))))) D.junk [] 0) else some (Out.mk true (V.one (X.d (D.bool false))) D.junk [] 0) else some (Out.mk true (V.one (X.d (D.bool false))) D.junk [] 0) else some
  (Out.mk true (V.one (X.d (D.bool false))) D.junk [] 0) else some (Out.mk true (V.one (X.d (D.bool false))) D.junk [] 0) else bif x0 == 2 then bif Int.ofNat (List.length r4) == 0 then bif
  Int.ofNat (List.length r5) == 0 then bif beqL (Array.toList (ByteArray.data s2)) (Array.toList (ByteArray.data (ByteArray.mk #[]))) then bif x1 == 0 then some (Out.mk true (V.one (X.d
  (D.bool true))) D.junk [] 0) else some (Out.mk true (V.one (X.d (D.bool (x1 == 1)))) D.junk [] 0) else some (Out.mk true (V.one (X.d (D.bool false))) D.junk [] 0) else some (Out.mk true
  (V.one (X.d (D.bool false))) D.junk [] 0) else some (Out.mk true (V.one (X.d (D.bool false))) D.junk [] 0) else bif x0 == 3 then bif Int.ofNat (List.length r4) == 0 then bif Int.ofNat
  (List.length r5) == 0 then bif x1 == 0 then r_oB (Γ false 30 [V.one (X.d (D.str s2)), V.one (X.d (D.bool false))] []) (fun c18_ => some (Out.mk true (V.one (X.d (D.bool c18_))) D.junk []
  0)) fun d19_ => some (Out.mk false V.junk d19_ [] 0) else some (Out.mk true (V.one (X.d (D.bool false))) D.junk [] 0) else some (Out.mk true (V.one (X.d (D.bool false))) D.junk [] 0) else
  some (Out.mk true (V.one (X.d (D.bool false))) D.junk [] 0) else bif x0 == 4 then bif Int.ofNat (List.length r4) == 0 then bif x1 == 0 then r_oB (Γ false 30 [V.one (X.d (D.str s2)), V.one
  (X.d (D.bool false))] []) (fun c20_ => some (Out.mk true (V.one (X.d (D.bool c20_))) D.junk [] 0)) fun d21_ => some (Out.mk false V.junk d21_ [] 0) else some (Out.mk true (V.one (X.d
  (D.bool false))) D.junk [] 0) else some (Out.mk true (V.one (X.d (D.bool false))) D.junk [] 0) else bif x0 == 5 then bif Int.ofNat (List.length r4) == 0 then some (Out.mk true (V.one (X.d
  (D.bool false))) D.junk [] 0) else some (Out.mk true (V.one (X.d (D.bool false))) D.junk [] 0) else bif x0 == 6 then bif Int.ofNat (List.length r4) == 0 then some (Out.mk true (V.one (X.d
  (D.bool false))) D.junk [] 0) else some (Out.mk true (V.one (X.d (D.bool false))) D.junk [] 0) else bif x0 == 7 then r_oI (Γ false 91 [V.one (X.d (D.str s2))] []) (fun i22_ => bif Int.ofNat
  (List.length r4) == 0 then bif x1 == 0 then bif decide (i22_ > 0) then bif i22_ == 7 then bif Int.ofNat (List.length r5) == 1 then some (Out.mk true (V.one (X.d (D.bool true))) D.junk [] 0)
  else bif decide (i22_ < 7) then some (Out.mk true (V.one (X.d (D.bool (Int.ofNat (List.length r5) == 2)))) D.junk [] 0) else some (Out.mk true (V.one (X.d (D.bool false))) D.junk [] 0) else
  bif decide (i22_ < 7) then some (Out.mk true (V.one (X.d (D.bool (Int.ofNat (List.length r5) == 2)))) D.junk [] 0) else some (Out.mk true (V.one (X.d (D.bool false))) D.junk [] 0) else some
  (Out.mk true (V.one (X.d (D.bool false))) D.junk [] 0) else some (Out.mk true (V.one (X.d (D.bool false))) D.junk [] 0) else some (Out.mk true (V.one (X.d (D.bool false))) D.junk [] 0)) fun
  d23_ => some (Out.mk false V.junk d23_ [] 0) else bif x0 == 8 then some (Out.mk true (V.one (X.d (D.bool false))) D.junk [] 0) else bif x0 == 9 then bif Int.ofNat (List.length r4) == 0 then
  some (Out.mk true (V.one (X.d (D.bool false))) D.junk [] 0) else some (Out.mk true (V.one (X.d (D.bool false))) D.junk [] 0) else bif x0 == 10 then some (Out.mk true (V.one (X.d (D.bool
  false))) D.junk [] 0) else bif x0 == 11 then bif Int.ofNat (List.length r4) == 0 then some (Out.mk true (V.one (X.d (D.bool false))) D.junk [] 0) else some (Out.mk true (V.one (X.d (D.bool
  false))) D.junk [] 0) else bif x0 == 12 then some (Out.mk true (V.one (X.d (D.bool false))) D.junk [] 0) else bif x0 == 13 then some (Out.mk true (V.one (X.d (D.bool false))) D.junk [] 0)
  else bif x0 == 14 then some (Out.mk true (V.one (X.d (D.bool false))) D.junk [] 0) else bif x0 == 15 then some (Out.mk true (V.one (X.d (D.bool false))) D.junk [] 0) else q56_0 Γ n1 else
  bif beqL (Array.toList (ByteArray.data s2)) (Array.toList (ByteArray.data (ByteArray.mk #[]))) then bif x0 == 1 then some (Out.mk true (V.one (X.d (D.bool false))) D.junk [] 0) else bif x0
  == 2 then some (Out.mk true (V.one (X.d (D.bool false))) D.junk [] 0) else bif x0 == 3 then some (Out.mk true (V.one (X.d (D.bool false))) D.junk [] 0) else bif x0 == 4 then some (Out.mk
  true (V.one (X.d (D.bool false))) D.junk [] 0) else bif x0 == 5 then some (Out.mk true (V.one (X.d (D.bool false))) D.junk [] 0) else bif x0 == 6 then some (Out.mk true (V.one (X.d (D.bool
  false))) D.junk [] 0) else bif x0 == 7 then r_oI (Γ false 91 [V.one (X.d (D.str s2))] []) (fun i24_ => some (Out.mk true (V.one (X.d (D.bool false))) D.junk [] 0)) fun d25_ => some (Out.mk
  false V.junk d25_ [] 0) else bif x0 == 8 then bif x1 == 0 then bif Int.ofNat (List.length r4) == 0 then bif Int.ofNat (List.length r5) == 2 then bif decide (Int.ofNat (List.length r3) ≥ 1)
  then bif decide (Int.ofNat (List.length r3) ≤ 4) then r_oB (Γ false 92 [V.one (X.d (D.list 1 r3))] []) (fun c26_ => some (Out.mk true (V.one (X.d (D.bool c26_))) D.junk [] 0)) fun d27_ =>
  some (Out.mk false V.junk d27_ [] 0) else some (Out.mk true (V.one (X.d (D.bool false))) D.junk [] 0) else some (Out.mk true (V.one (X.d (D.bool false))) D.junk [] 0) else some (Out.mk true
  (V.one (X.d (D.bool false))) D.junk [] 0) else some (Out.mk true (V.one (X.d (D.bool false))) D.junk [] 0) else some (Out.mk true (V.one (X.d (D.bool false))) D.junk [] 0) else bif x0 == 9
  then some (Out.mk true (V.one (X.d (D.bool false))) D.junk [] 0) else bif x0 == 10 then bif x1 == 0 then bif Int.ofNat (List.length r4) == 0 then bif Int.ofNat (List.length r5) == 3 then
  bif Int.ofNat (List.length r3) == 2 then r_oB (Γ false 92 [V.one (X.d (D.list 1 r3))] []) (fun c28_ => some (Out.mk true (V.one (X.d (D.bool c28_))) D.junk [] 0)) fun d29_ => some (Out.mk
  false V.junk d29_ [] 0) else some (Out.mk true (V.one (X.d (D.bool false))) D.junk [] 0) else some (Out.mk true (V.one (X.d (D.bool false))) D.junk [] 0) else some (Out.mk true (V.one (X.d
  (D.bool false))) D.junk [] 0) else some (Out.mk true (V.one (X.d (D.bool false))) D.junk [] 0) else bif x0 == 11 then some (Out.mk true (V.one (X.d (D.bool false))) D.junk [] 0) else bif x0
  == 12 then bif x1 == 0 then bif Int.ofNat (List.length r3) == 0 then bif Int.ofNat (List.length r5) == 1 then bif Int.ofNat (List.length r4) == 2 then r_oB (Γ false 93 [V.one (X.d (D.list 1
  r4)), V.one (X.d (D.int IntKind.i64 0)), V.one (X.d (D.int IntKind.i64 2147483647))] []) (fun c30_ => some (Out.mk true (V.one (X.d (D.bool c30_))) D.junk [] 0)) fun d31_ => some (Out.mk
  false V.junk d31_ [] 0) else some (Out.mk true (V.one (X.d (D.bool false))) D.junk [] 0) else some (Out.mk true (V.one (X.d (D.bool false))) D.junk [] 0) else some (Out.mk true (V.one (X.d
  (D.bool false))) D.junk [] 0) else some (Out.mk true (V.one (X.d (D.bool false))) D.junk [] 0) else bif x0 == 13 then bif x1 == 0 then bif Int.ofNat (List.length r3) == 0 then bif decide
  (Int.ofNat (List.length r5) ≥ 1) then bif Int.ofNat (List.length r4) == Int.ofNat (List.length r5) then r_oB (Γ false 93 [V.one (X.d (D.list 1 r4)), V.one (X.d (D.int IntKind.i64 0)), V.one
  (X.d (D.int IntKind.i64 2147483647))] []) (fun c32_ => some (Out.mk true (V.one (X.d (D.bool c32_))) D.junk [] 0)) fun d33_ => some (Out.mk false V.junk d33_ [] 0) else some (Out.mk true
  (V.one (X.d (D.bool false))) D.junk [] 0) else some (Out.mk true (V.one (X.d (D.bool false))) D.junk [] 0) else some (Out.mk true (V.one (X.d (D.bool false))) D.junk [] 0) else some (Out.mk
  true (V.one (X.d (D.bool false))) D.junk [] 0) else bif x0 == 14 then bif x1 == 0 then bif Int.ofNat (List.length r3) == 0 then bif Int.ofNat (List.length r5) == 0 then bif Int.ofNat
  (List.length r4) == 2 then r_oB (Γ false 93 [V.one (X.d (D.list 1 r4)), V.one (X.d (D.int IntKind.i64 0)), V.one (X.d (D.int IntKind.i64 2147483647))] []) (fun c34_ => some (Out.mk true
  (V.one (X.d (D.bool c34_))) D.junk [] 0)) fun d35_ => some (Out.mk false V.junk d35_ [] 0) else some (Out.mk true (V.one (X.d (D.bool false))) D.junk [] 0) else some (Out.mk true (V.one
  (X.d (D.bool false))) D.junk [] 0) else some (Out.mk true (V.one (X.d (D.bool false))) D.junk [] 0) else some (Out.mk true (V.one (X.d (D.bool false))) D.junk [] 0) else bif x0 == 15 then
  bif x1 == 0 then bif Int.ofNat (List.length r3) == 0 then bif Int.ofNat (List.length r5) == 0 then bif Int.ofNat (List.length r4) == 2 then r_oB (Γ false 93 [V.one (X.d (D.list 1 r4)),
  V.one (X.d (D.int IntKind.i64 (-2147483647))), V.one (X.d (D.int IntKind.i64 2147483647))] []) (fun c36_ => some (Out.mk true (V.one (X.d (D.bool c36_))) D.junk [] 0)) fun d37_ => some
  (Out.mk false V.junk d37_ [] 0) else some (Out.mk true (V.one (X.d (D.bool false))) D.junk [] 0) else some (Out.mk true (V.one (X.d (D.bool false))) D.junk [] 0) else some (Out.mk true
  (V.one (X.d (D.bool false))) D.junk [] 0) else some (Out.mk true (V.one (X.d (D.bool false))) D.junk [] 0) else q56_0 Γ n1 else bif x0 == 1 then some (Out.mk true (V.one (X.d (D.bool
  false))) D.junk [] 0) else bif x0 == 2 then some (Out.mk true (V.one (X.d (D.bool false))) D.junk [] 0) else bif x0 == 3 then some (Out.mk true (V.one (X.d (D.bool false))) D.junk [] 0)
  else bif x0 == 4 then some (Out.mk true (V.one (X.d (D.bool false))) D.junk [] 0) else bif x0 == 5 then some (Out.mk true (V.one (X.d (D.bool false))) D.junk [] 0) else bif x0 == 6 then
  some (Out.mk true (V.one (X.d (D.bool false))) D.junk [] 0) else bif x0 == 7 then r_oI (Γ false 91 [V.one (X.d (D.str s2))] []) (fun i38_ => some (Out.mk true (V.one (X.d (D.bool false)))
  D.junk [] 0)) fun d39_ => some (Out.mk false V.junk d39_ [] 0) else bif x0 == 8 then some (Out.mk true (V.one (X.d (D.bool false))) D.junk [] 0) else bif x0 == 9 then some (Out.mk true
  (V.one (X.d (D.bool false))) D.junk [] 0) else bif x0 == 10 then some (Out.mk true (V.one (X.d (D.bool false))) D.junk [] 0) else bif x0 == 11 then some (Out.mk true (V.one (X.d (D.bool
  false))) D.junk [] 0) else bif x0 == 12 then some (Out.mk true (V.one (X.d (D.bool false))) D.junk [] 0) else bif x0 == 13 then some (Out.mk true (V.one (X.d (D.bool false))) D.junk [] 0)
  else bif x0 == 14 then some (Out.mk true (V.one (X.d (D.bool false))) D.junk [] 0) else bif x0 == 15 then some (Out.mk true (V.one (X.d (D.bool false))) D.junk [] 0) else q56_0 Γ n1 :=
  (run_step ..).trans (by kernel_rfl)
theorem q33_0_eq (Γ : Bool → SemL) (n1 : Nat) (x0 : Int) (x1 : Int) (x2 : Int) (s3 : ByteArray) (r4 : List (List D)) (r5 : List (List D)) (r6 : List (List D)) (x7 : Int) (x8 : Int) : q33_0 Γ
  n1 x0 x1 x2 s3 r4 r5 r6 x7 x8 = l33_0 n1 Γ n1 x0 0 x1 x2 s3 r4 r5 r6 x7 x8 := (Jn_step ..).trans (by kernel_rfl)
theorem q29_0_eq (Γ : Bool → SemL) (n1 : Nat) (n2 : Nat) (r0 : List (List D)) (x1 : Int) : q29_0 Γ n1 n2 r0 x1 = bif decide (0 ≤ x1) && decide (x1 < Int.ofNat (List.length r0)) then r_oB (Γ
  false 30 [V.one (X.d (List.getD (List.getD r0 (Int.toNat x1) []) 0 D.junk)), V.one (X.d (D.bool false))] []) (fun c0_ => bif !c0_ then some (Out.mk true (V.one (X.d (D.bool false))) D.junk
  [] 0) else bif decide (0 ≤ x1) && decide (x1 < Int.ofNat (List.length r0)) then r_oB (Γ false 31 [V.agg [X.d (List.getD (List.getD r0 (Int.toNat x1) []) 1 D.junk), X.d (List.getD (List.getD
  r0 (Int.toNat x1) []) 2 D.junk)]] []) (fun c2_ => bif !c2_ then some (Out.mk true (V.one (X.d (D.bool false))) D.junk [] 0) else q29_1 Γ n1 n2 r0 x1) fun d3_ => some (Out.mk false V.junk
  d3_ [] 0) else none) fun d1_ => some (Out.mk false V.junk d1_ [] 0) else none := (Jn_step ..).trans (by kernel_rfl)
theorem q29_2_eq (Γ : Bool → SemL) (n1 : Nat) : q29_2 Γ n1 = some (Out.mk true (V.one (X.d (D.bool true))) D.junk [] 0) := (Jn_step ..).trans (by kernel_rfl)
theorem q10_1_eq (Γ : Bool → SemL) (n1 : Nat) (n2 : Nat) (x0 : Int) (r1 : List (List D)) (r2 : List (List D)) (x3 : Int) (x4 : Int) (s5 : ByteArray) (r6 : List (List D)) (r7 : List (List D))
  (r8 : List (List D)) (x9 : Int) (x10 : Int) : q10_1 Γ n1 n2 x0 r1 r2 x3 x4 s5 r6 r7 r8 x9 x10 = bif decide (0 ≤ x0) && decide (x0 < Int.ofNat (List.length r2)) then r_oB (Γ false 30 [V.one
  (X.d (List.getD (List.getD r2 (Int.toNat x0) []) 0 D.junk)), V.one (X.d (D.bool false))] []) (fun c0_ => bif !c0_ then some (Out.mk true (V.one (X.d (D.bool false))) D.junk [] 0) else r_oB
  (Γ false 29 [V.one (X.d (List.getD (List.getD r2 (Int.toNat x0) []) 1 D.junk))] []) (fun c2_ => bif !c2_ then some (Out.mk true (V.one (X.d (D.bool false))) D.junk [] 0) else r_oB (Γ false
  31 [V.agg [X.d (List.getD (List.getD r2 (Int.toNat x0) []) 2 D.junk), X.d (List.getD (List.getD r2 (Int.toNat x0) []) 3 D.junk)]] []) (fun c4_ => bif !c4_ then some (Out.mk true (V.one (X.d
  (D.bool false))) D.junk [] 0) else r_oB (Γ false 12 [V.agg [X.d (List.getD (List.getD r2 (Int.toNat x0) []) 4 D.junk), X.d (List.getD (List.getD r2 (Int.toNat x0) []) 5 D.junk), X.d
  (List.getD (List.getD r2 (Int.toNat x0) []) 6 D.junk), X.d (List.getD (List.getD r2 (Int.toNat x0) []) 7 D.junk), X.d (List.getD (List.getD r2 (Int.toNat x0) []) 8 D.junk), X.d (List.getD
  (List.getD r2 (Int.toNat x0) []) 9 D.junk), X.d (List.getD (List.getD r2 (Int.toNat x0) []) 10 D.junk), X.d (List.getD (List.getD r2 (Int.toNat x0) []) 11 D.junk)]] []) (fun c6_ => bif !c6_
  then some (Out.mk true (V.one (X.d (D.bool false))) D.junk [] 0) else q10_2 Γ n1 n2 x0 r1 r2 x3 x4 s5 r6 r7 r8 x9 x10) fun d7_ => some (Out.mk false V.junk d7_ [] 0)) fun d5_ => some
  (Out.mk false V.junk d5_ [] 0)) fun d3_ => some (Out.mk false V.junk d3_ [] 0)) fun d1_ => some (Out.mk false V.junk d1_ [] 0) else none := (Jn_step ..).trans (by kernel_rfl)
theorem q10_3_eq (Γ : Bool → SemL) (n1 : Nat) (r0 : List (List D)) (r1 : List (List D)) (x2 : Int) (x3 : Int) (s4 : ByteArray) (r5 : List (List D)) (r6 : List (List D)) (r7 : List (List D))
  (x8 : Int) (x9 : Int) : q10_3 Γ n1 r0 r1 x2 x3 s4 r5 r6 r7 x8 x9 = r_oB (Γ false 12 [V.agg [X.d (D.int IntKind.i64 x2), X.d (D.int IntKind.i64 x3), X.d (D.str s4), X.d (D.list 1 r5), X.d
  (D.list 1 r6), X.d (D.list 8 r7), X.d (D.int IntKind.i64 x8), X.d (D.int IntKind.i64 x9)]] []) (fun c0_ => some (Out.mk true (V.one (X.d (D.bool c0_))) D.junk [] 0)) fun d1_ => some (Out.mk
  false V.junk d1_ [] 0) := (Jn_step ..).trans (by kernel_rfl)
theorem e91_eq (Γ : Bool → SemL) (n1 : Nat) (s0 : ByteArray) : e91 Γ n1 s0 = bif beqL (Array.toList (ByteArray.data s0)) (Array.toList (ByteArray.data (ByteArray.mk #[111, 114]))) then some
  (Out.mk true (V.one (X.d (D.int IntKind.i64 1))) D.junk [] 0) else bif beqL (Array.toList (ByteArray.data s0)) (Array.toList (ByteArray.data (ByteArray.mk #[97, 110, 100]))) then some
  (Out.mk true (V.one (X.d (D.int IntKind.i64 2))) D.junk [] 0) else bif beqL (Array.toList (ByteArray.data s0)) (Array.toList (ByteArray.data (ByteArray.mk #[61, 61]))) then q91_0 Γ n1 s0
  (beqL (Array.toList (ByteArray.data s0)) (Array.toList (ByteArray.data (ByteArray.mk #[61, 61])))) else bif beqL (Array.toList (ByteArray.data s0)) (Array.toList (ByteArray.data
  (ByteArray.mk #[60]))) then q91_0 Γ n1 s0 (beqL (Array.toList (ByteArray.data s0)) (Array.toList (ByteArray.data (ByteArray.mk #[60])))) else q91_0 Γ n1 s0 (beqL (Array.toList
  (ByteArray.data s0)) (Array.toList (ByteArray.data (ByteArray.mk #[60, 61])))) := (run_step ..).trans (by kernel_rfl)
theorem e92_eq (Γ : Bool → SemL) (n1 : Nat) (r0 : List (List D)) : e92 Γ n1 r0 = l92_0 n1 Γ n1 r0 0 := (run_step ..).trans (by kernel_rfl)
theorem e93_eq (Γ : Bool → SemL) (n1 : Nat) (r0 : List (List D)) (x1 : Int) (x2 : Int) : e93 Γ n1 r0 x1 x2 = l93_0 n1 Γ n1 r0 x1 x2 0 := (run_step ..).trans (by kernel_rfl)
theorem q56_0_eq (Γ : Bool → SemL) (n1 : Nat) : q56_0 Γ n1 = some (Out.mk true (V.one (X.d (D.bool false))) D.junk [] 0) := (Jn_step ..).trans (by kernel_rfl)
theorem l33_0_eq (n0 : Nat) (Γ : Bool → SemL) (n2 : Nat) (x0 : Int) (x1 : Int) (x2 : Int) (x3 : Int) (s4 : ByteArray) (r5 : List (List D)) (r6 : List (List D)) (r7 : List (List D)) (x8 : Int)
  (x9 : Int) : l33_0 (n0 + 1) Γ n2 x0 x1 x2 x3 s4 r5 r6 r7 x8 x9 = bif decide (x1 < Int.ofNat (List.length r7)) then q33_1 Γ n0 n2 x0 x1 x2 x3 s4 r5 r6 r7 x8 x9 else q33_3 Γ n2 := (loop_step
  ..).trans (by kernel_rfl)
theorem q29_1_eq (Γ : Bool → SemL) (n1 : Nat) (n2 : Nat) (r0 : List (List D)) (x1 : Int) : q29_1 Γ n1 n2 r0 x1 = l29_0 n1 Γ n2 r0 (IntKind.wrap IntKind.i64 (x1 + 1)) := (Jn_step ..).trans (by
  kernel_rfl)
theorem q10_2_eq (Γ : Bool → SemL) (n1 : Nat) (n2 : Nat) (x0 : Int) (r1 : List (List D)) (r2 : List (List D)) (x3 : Int) (x4 : Int) (s5 : ByteArray) (r6 : List (List D)) (r7 : List (List D))
  (r8 : List (List D)) (x9 : Int) (x10 : Int) : q10_2 Γ n1 n2 x0 r1 r2 x3 x4 s5 r6 r7 r8 x9 x10 = l10_0 n1 Γ n2 (IntKind.wrap IntKind.i64 (x0 + 1)) r1 r2 x3 x4 s5 r6 r7 r8 x9 x10 := (Jn_step
  ..).trans (by kernel_rfl)
theorem q91_0_eq (Γ : Bool → SemL) (n1 : Nat) (s0 : ByteArray) (b1 : Bool) : q91_0 Γ n1 s0 b1 = bif b1 then some (Out.mk true (V.one (X.d (D.int IntKind.i64 3))) D.junk [] 0) else bif beqL
  (Array.toList (ByteArray.data s0)) (Array.toList (ByteArray.data (ByteArray.mk #[58, 58]))) then some (Out.mk true (V.one (X.d (D.int IntKind.i64 4))) D.junk [] 0) else bif beqL
  (Array.toList (ByteArray.data s0)) (Array.toList (ByteArray.data (ByteArray.mk #[43]))) then q91_1 Γ n1 s0 (beqL (Array.toList (ByteArray.data s0)) (Array.toList (ByteArray.data
  (ByteArray.mk #[43])))) else q91_1 Γ n1 s0 (beqL (Array.toList (ByteArray.data s0)) (Array.toList (ByteArray.data (ByteArray.mk #[45])))) := (Jn_step ..).trans (by kernel_rfl)
theorem l92_0_eq (n0 : Nat) (Γ : Bool → SemL) (n2 : Nat) (r0 : List (List D)) (x1 : Int) : l92_0 (n0 + 1) Γ n2 r0 x1 = bif decide (x1 < Int.ofNat (List.length r0)) then q92_0 Γ n0 n2 r0 x1
  else q92_2 Γ n2 := (loop_step ..).trans (by kernel_rfl)
theorem l93_0_eq (n0 : Nat) (Γ : Bool → SemL) (n2 : Nat) (r0 : List (List D)) (x1 : Int) (x2 : Int) (x3 : Int) : l93_0 (n0 + 1) Γ n2 r0 x1 x2 x3 = bif decide (x3 < Int.ofNat (List.length r0))
  then q93_0 Γ n0 n2 r0 x1 x2 x3 else q93_2 Γ n2 := (loop_step ..).trans (by kernel_rfl)
theorem q33_1_eq (Γ : Bool → SemL) (n1 : Nat) (n2 : Nat) (x0 : Int) (x1 : Int) (x2 : Int) (x3 : Int) (s4 : ByteArray) (r5 : List (List D)) (r6 : List (List D)) (r7 : List (List D)) (x8 : Int)
  (x9 : Int) : q33_1 Γ n1 n2 x0 x1 x2 x3 s4 r5 r6 r7 x8 x9 = bif decide (0 ≤ x1) && decide (x1 < Int.ofNat (List.length r7)) then r_oB (Γ false 33 [V.agg [X.d (List.getD (List.getD r7
  (Int.toNat x1) []) 0 D.junk), X.d (List.getD (List.getD r7 (Int.toNat x1) []) 1 D.junk), X.d (List.getD (List.getD r7 (Int.toNat x1) []) 2 D.junk), X.d (List.getD (List.getD r7 (Int.toNat
  x1) []) 3 D.junk), X.d (List.getD (List.getD r7 (Int.toNat x1) []) 4 D.junk), X.d (List.getD (List.getD r7 (Int.toNat x1) []) 5 D.junk), X.d (List.getD (List.getD r7 (Int.toNat x1) []) 6
  D.junk), X.d (List.getD (List.getD r7 (Int.toNat x1) []) 7 D.junk)], V.one (X.d (D.int IntKind.i64 (IntKind.wrap IntKind.i64 (x0 - 1))))] []) (fun c0_ => bif !c0_ then some (Out.mk true
  (V.one (X.d (D.bool false))) D.junk [] 0) else q33_2 Γ n1 n2 x0 x1 x2 x3 s4 r5 r6 r7 x8 x9) fun d1_ => some (Out.mk false V.junk d1_ [] 0) else none := (Jn_step ..).trans (by kernel_rfl)
theorem q33_3_eq (Γ : Bool → SemL) (n1 : Nat) : q33_3 Γ n1 = some (Out.mk true (V.one (X.d (D.bool true))) D.junk [] 0) := (Jn_step ..).trans (by kernel_rfl)
theorem q91_1_eq (Γ : Bool → SemL) (n1 : Nat) (s0 : ByteArray) (b1 : Bool) : q91_1 Γ n1 s0 b1 = bif b1 then some (Out.mk true (V.one (X.d (D.int IntKind.i64 5))) D.junk [] 0) else bif beqL
  (Array.toList (ByteArray.data s0)) (Array.toList (ByteArray.data (ByteArray.mk #[42]))) then q91_2 Γ n1 s0 (beqL (Array.toList (ByteArray.data s0)) (Array.toList (ByteArray.data
  (ByteArray.mk #[42])))) else bif beqL (Array.toList (ByteArray.data s0)) (Array.toList (ByteArray.data (ByteArray.mk #[47]))) then q91_2 Γ n1 s0 (beqL (Array.toList (ByteArray.data s0))
  (Array.toList (ByteArray.data (ByteArray.mk #[47])))) else q91_2 Γ n1 s0 (beqL (Array.toList (ByteArray.data s0)) (Array.toList (ByteArray.data (ByteArray.mk #[37])))) := (Jn_step ..).trans
  (by kernel_rfl)
theorem q92_0_eq (Γ : Bool → SemL) (n1 : Nat) (n2 : Nat) (r0 : List (List D)) (x1 : Int) : q92_0 Γ n1 n2 r0 x1 = bif decide (0 ≤ x1) && decide (x1 < Int.ofNat (List.length r0)) then r_oB (Γ
  false 30 [V.one (X.d (List.getD (List.getD r0 (Int.toNat x1) []) 0 D.junk)), V.one (X.d (D.bool false))] []) (fun c0_ => bif !c0_ then some (Out.mk true (V.one (X.d (D.bool false))) D.junk
  [] 0) else q92_1 Γ n1 n2 r0 x1) fun d1_ => some (Out.mk false V.junk d1_ [] 0) else none := (Jn_step ..).trans (by kernel_rfl)
theorem q92_2_eq (Γ : Bool → SemL) (n1 : Nat) : q92_2 Γ n1 = some (Out.mk true (V.one (X.d (D.bool true))) D.junk [] 0) := (Jn_step ..).trans (by kernel_rfl)
theorem q93_0_eq (Γ : Bool → SemL) (n1 : Nat) (n2 : Nat) (r0 : List (List D)) (x1 : Int) (x2 : Int) (x3 : Int) : q93_0 Γ n1 n2 r0 x1 x2 x3 = bif decide (0 ≤ x3) && decide (x3 < Int.ofNat
  (List.length r0)) then bif D.isInt IntKind.i64 (List.getD (List.getD r0 (Int.toNat x3) []) 0 D.junk) then bif decide (D.num (List.getD (List.getD r0 (Int.toNat x3) []) 0 D.junk) < x1) then
  some (Out.mk true (V.one (X.d (D.bool false))) D.junk [] 0) else bif decide (0 ≤ x3) && decide (x3 < Int.ofNat (List.length r0)) then bif D.isInt IntKind.i64 (List.getD (List.getD r0
  (Int.toNat x3) []) 0 D.junk) then bif decide (D.num (List.getD (List.getD r0 (Int.toNat x3) []) 0 D.junk) > x2) then some (Out.mk true (V.one (X.d (D.bool false))) D.junk [] 0) else q93_1 Γ
  n1 n2 r0 x1 x2 x3 else none else none else none else none := (Jn_step ..).trans (by kernel_rfl)
theorem q93_2_eq (Γ : Bool → SemL) (n1 : Nat) : q93_2 Γ n1 = some (Out.mk true (V.one (X.d (D.bool true))) D.junk [] 0) := (Jn_step ..).trans (by kernel_rfl)
theorem q33_2_eq (Γ : Bool → SemL) (n1 : Nat) (n2 : Nat) (x0 : Int) (x1 : Int) (x2 : Int) (x3 : Int) (s4 : ByteArray) (r5 : List (List D)) (r6 : List (List D)) (r7 : List (List D)) (x8 : Int)
  (x9 : Int) : q33_2 Γ n1 n2 x0 x1 x2 x3 s4 r5 r6 r7 x8 x9 = l33_0 n1 Γ n2 x0 (IntKind.wrap IntKind.i64 (x1 + 1)) x2 x3 s4 r5 r6 r7 x8 x9 := (Jn_step ..).trans (by kernel_rfl)
theorem q91_2_eq (Γ : Bool → SemL) (n1 : Nat) (s0 : ByteArray) (b1 : Bool) : q91_2 Γ n1 s0 b1 = bif b1 then some (Out.mk true (V.one (X.d (D.int IntKind.i64 6))) D.junk [] 0) else bif beqL
  (Array.toList (ByteArray.data s0)) (Array.toList (ByteArray.data (ByteArray.mk #[110, 111, 116]))) then q91_3 Γ n1 (beqL (Array.toList (ByteArray.data s0)) (Array.toList (ByteArray.data
  (ByteArray.mk #[110, 111, 116])))) else q91_3 Γ n1 (beqL (Array.toList (ByteArray.data s0)) (Array.toList (ByteArray.data (ByteArray.mk #[110, 101, 103])))) := (Jn_step ..).trans (by
  kernel_rfl)
theorem q92_1_eq (Γ : Bool → SemL) (n1 : Nat) (n2 : Nat) (r0 : List (List D)) (x1 : Int) : q92_1 Γ n1 n2 r0 x1 = l92_0 n1 Γ n2 r0 (IntKind.wrap IntKind.i64 (x1 + 1)) := (Jn_step ..).trans (by
  kernel_rfl)
theorem q93_1_eq (Γ : Bool → SemL) (n1 : Nat) (n2 : Nat) (r0 : List (List D)) (x1 : Int) (x2 : Int) (x3 : Int) : q93_1 Γ n1 n2 r0 x1 x2 x3 = l93_0 n1 Γ n2 r0 x1 x2 (IntKind.wrap IntKind.i64
  (x3 + 1)) := (Jn_step ..).trans (by kernel_rfl)
theorem q91_3_eq (Γ : Bool → SemL) (n1 : Nat) (b0 : Bool) : q91_3 Γ n1 b0 = bif b0 then some (Out.mk true (V.one (X.d (D.int IntKind.i64 7))) D.junk [] 0) else q91_4 Γ n1 := (Jn_step
  ..).trans (by kernel_rfl)
theorem q91_4_eq (Γ : Bool → SemL) (n1 : Nat) : q91_4 Γ n1 = some (Out.mk true (V.one (X.d (D.int IntKind.i64 0))) D.junk [] 0) := (Jn_step ..).trans (by kernel_rfl)
theorem call10 (r0 : List (List D)) (r1 : List (List D)) (x2 : Int) (x3 : Int) (s4 : ByteArray) (r5 : List (List D)) (r6 : List (List D)) (r7 : List (List D)) (x8 : Int) (x9 : Int) {o : Out}
  (h : Ev (fun _ k n => e10 (Ak k) n r0 r1 x2 x3 s4 r5 r6 r7 x8 x9) o) : Cal 10 [V.agg [X.d (D.list 5 r0), X.d (D.list 14 r1), X.d (D.int IntKind.i64 x2), X.d (D.int IntKind.i64 x3), X.d
  (D.str s4), X.d (D.list 1 r5), X.d (D.list 1 r6), X.d (D.list 8 r7), X.d (D.int IntKind.i64 x8), X.d (D.int IntKind.i64 x9)]] [] o := Ev.call (E := fun Γ n1 => e10 Γ n1 r0 r1 x2 x3 s4 r5 r6
  r7 x8 x9) (fun k => call_step (by kernel_rfl) rfl) h
theorem call12 (x0 : Int) (x1 : Int) (s2 : ByteArray) (r3 : List (List D)) (r4 : List (List D)) (r5 : List (List D)) (x6 : Int) (x7 : Int) {o : Out} (h : Ev (fun _ k n => e12 (Ak k) n x0 x1
  s2 r3 r4 r5 x6 x7) o) : Cal 12 [V.agg [X.d (D.int IntKind.i64 x0), X.d (D.int IntKind.i64 x1), X.d (D.str s2), X.d (D.list 1 r3), X.d (D.list 1 r4), X.d (D.list 8 r5), X.d (D.int
  IntKind.i64 x6), X.d (D.int IntKind.i64 x7)]] [] o := Ev.call (E := fun Γ n1 => e12 Γ n1 x0 x1 s2 r3 r4 r5 x6 x7) (fun k => call_step (by kernel_rfl) rfl) h
theorem call29 (r0 : List (List D)) {o : Out} (h : Ev (fun _ k n => e29 (Ak k) n r0) o) : Cal 29 [V.one (X.d (D.list 5 r0))] [] o := Ev.call (E := fun Γ n1 => e29 Γ n1 r0) (fun k => call_step
  (by kernel_rfl) rfl) h
theorem call33 (x0 : Int) (x1 : Int) (s2 : ByteArray) (r3 : List (List D)) (r4 : List (List D)) (r5 : List (List D)) (x6 : Int) (x7 : Int) (x8 : Int) {o : Out} (h : Ev (fun _ k n => e33 (Ak
  k) n x0 x1 s2 r3 r4 r5 x6 x7 x8) o) : Cal 33 [V.agg [X.d (D.int IntKind.i64 x0), X.d (D.int IntKind.i64 x1), X.d (D.str s2), X.d (D.list 1 r3), X.d (D.list 1 r4), X.d (D.list 8 r5), X.d
  (D.int IntKind.i64 x6), X.d (D.int IntKind.i64 x7)], V.one (X.d (D.int IntKind.i64 x8))] [] o := Ev.call (E := fun Γ n1 => e33 Γ n1 x0 x1 s2 r3 r4 r5 x6 x7 x8) (fun k => call_step (by
  kernel_rfl) rfl) h
theorem call56 (x0 : Int) (x1 : Int) (s2 : ByteArray) (r3 : List (List D)) (r4 : List (List D)) (r5 : List (List D)) (x6 : Int) (x7 : Int) {o : Out} (h : Ev (fun _ k n => e56 (Ak k) n x0 x1
  s2 r3 r4 r5 x6 x7) o) : Cal 56 [V.agg [X.d (D.int IntKind.i64 x0), X.d (D.int IntKind.i64 x1), X.d (D.str s2), X.d (D.list 1 r3), X.d (D.list 1 r4), X.d (D.list 8 r5), X.d (D.int
  IntKind.i64 x6), X.d (D.int IntKind.i64 x7)]] [] o := Ev.call (E := fun Γ n1 => e56 Γ n1 x0 x1 s2 r3 r4 r5 x6 x7) (fun k => call_step (by kernel_rfl) rfl) h
theorem call91 (s0 : ByteArray) {o : Out} (h : Ev (fun _ k n => e91 (Ak k) n s0) o) : Cal 91 [V.one (X.d (D.str s0))] [] o := Ev.call (E := fun Γ n1 => e91 Γ n1 s0) (fun k => call_step (by
  kernel_rfl) rfl) h
theorem call92 (r0 : List (List D)) {o : Out} (h : Ev (fun _ k n => e92 (Ak k) n r0) o) : Cal 92 [V.one (X.d (D.list 1 r0))] [] o := Ev.call (E := fun Γ n1 => e92 Γ n1 r0) (fun k => call_step
  (by kernel_rfl) rfl) h
theorem call93 (r0 : List (List D)) (x1 : Int) (x2 : Int) {o : Out} (h : Ev (fun _ k n => e93 (Ak k) n r0 x1 x2) o) : Cal 93 [V.one (X.d (D.list 1 r0)), V.one (X.d (D.int IntKind.i64 x1)),
  V.one (X.d (D.int IntKind.i64 x2))] [] o := Ev.call (E := fun Γ n1 => e93 Γ n1 r0 x1 x2) (fun k => call_step (by kernel_rfl) rfl) h
end Go.Proofs.YtaphnbaiamnfpaaDoor.Ps
