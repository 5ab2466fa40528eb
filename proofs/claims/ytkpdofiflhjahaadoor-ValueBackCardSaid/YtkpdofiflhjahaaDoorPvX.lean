/- What the pieces of the functions do, as functions of their data. Printed by pack3.py. -/
import Derived.Test.YtkpdofiflhjahaaDoorPv0
namespace Go.Proofs.YtkpdofiflhjahaaDoor.Ps
set_option maxHeartbeats 0
set_option maxRecDepth 100000
set_option linter.unusedVariables false
open Go Go.RowKit
noncomputable def e26 (Γ : SemL) (n1 : Nat) (x0 : Int) (x1 : Int) (r2 : List (List D)) : Option Out := runF Γ shp (Sh.owns (shp 26)) sf26 n1 [V.agg [X.d (D.int IntKind.i64 x0), X.d (D.int
  IntKind.i64 x1), X.d (D.list 3 r2)]] []
noncomputable def e53 (Γ : SemL) (n1 : Nat) (x0 : Int) (x1 : Int) (r2 : List (List D)) (x3 : Int) : Option Out := runF Γ shp (Sh.owns (shp 53)) sf53 n1 [V.agg [X.d (D.int IntKind.i64 x0), X.d
  (D.int IntKind.i64 x1), X.d (D.list 3 r2)], V.one (X.d (D.int IntKind.i64 x3))] []
noncomputable def e54 (Γ : SemL) (n1 : Nat) (x0 : Int) (r1 : List (List D)) : Option Out := runF Γ shp (Sh.owns (shp 54)) sf54 n1 [V.agg [X.d (D.int IntKind.i64 x0), X.d (D.list 2 r1)]] []
noncomputable def l53_0 (n0 : Nat) (Γ : SemL) (n2 : Nat) (x0 : Int) (r1 : List (List D)) (x2 : Int) (x3 : Int) (x4 : Int) (x5 : Int) : Option Out := loopK Γ shp n0 [1, 4, 6, 58, 59, 60]
  lb53_0 (St.mk [(1, V.one (X.d (D.int IntKind.i64 x0))), (4, V.one (X.ptr 0 0)), (6, V.one (X.ptr 1 0)), (58, V.one (X.d (D.list 3 r1))), (59, V.one (X.d (D.int IntKind.i64 x2))), (60, V.one
  (X.d (D.int IntKind.i64 x3)))] [(0, Blk.mk [Lf.int IntKind.i64, Lf.lst 2] [X.d (D.int IntKind.i64 x4), X.nilL 2]), (1, Blk.mk [Lf.int IntKind.i64, Lf.lst 2] [X.d (D.int IntKind.i64 x5),
  X.nilL 2])] [] 2 0 0) (kBlk 1 (kSeq (some [4, 6]) (fun s K => Jn Γ shp n2 j53_3 s K) (kBlk 0 (kSeq (some [4, 6]) (fun s K => Jn Γ shp n2 j53_8 s K) (finK (Sh.owns (shp 53)) (SFunc.results
  sf53) 0)))))
noncomputable def l53_1 (n0 : Nat) (Γ : SemL) (n2 : Nat) (x0 : Int) (r1 : List (List D)) (x2 : Int) (x3 : Int) (x4 : Int) (x5 : Int) (x6 : Int) : Option Out := loopK Γ shp n0 [1, 4, 6, 11,
  98, 99, 100] lb53_1 (St.mk [(1, V.one (X.d (D.int IntKind.i64 x0))), (4, V.one (X.ptr 0 0)), (6, V.one (X.ptr 1 0)), (11, V.one (X.ptr 2 0)), (98, V.one (X.d (D.list 3 r1))), (99, V.one
  (X.d (D.int IntKind.i64 x2))), (100, V.one (X.d (D.int IntKind.i64 x3)))] [(0, Blk.mk [Lf.int IntKind.i64, Lf.lst 2] [X.d (D.int IntKind.i64 x4), X.nilL 2]), (1, Blk.mk [Lf.int IntKind.i64,
  Lf.lst 2] [X.d (D.int IntKind.i64 x5), X.nilL 2]), (2, Blk.mk [Lf.int IntKind.i64, Lf.lst 2] [X.d (D.int IntKind.i64 x6), X.nilL 2])] [] 3 0 0) (kBlk 3 (kSeq (some [4, 6, 11]) (fun s K =>
  Jn Γ shp n2 j53_7 s K) (kBlk 0 (kSeq (some [4, 6]) (fun s K => Jn Γ shp n2 j53_8 s K) (finK (Sh.owns (shp 53)) (SFunc.results sf53) 0)))))
noncomputable def q53_8 (Γ : SemL) (n1 : Nat) (x0 : Int) (x1 : Int) : Option Out := Jn Γ shp n1 j53_8 (St.mk [(4, V.one (X.ptr 0 0)), (6, V.one (X.ptr 1 0))] [(0, Blk.mk [Lf.int IntKind.i64,
  Lf.lst 2] [X.d (D.int IntKind.i64 x0), X.nilL 2]), (1, Blk.mk [Lf.int IntKind.i64, Lf.lst 2] [X.d (D.int IntKind.i64 x1), X.nilL 2])] [] 2 0 0) (finK (Sh.owns (shp 53)) (SFunc.results sf53)
  0)
noncomputable def q54_0 (Γ : SemL) (n1 : Nat) (x0 : Int) (r1 : List (List D)) (x2 : Int) : Option Out := Jn Γ shp n1 j54_0 (St.mk [(1, V.one (X.ptr 0 0)), (2, V.one (X.ptr 1 0))] [(0, Blk.mk
  [Lf.int IntKind.i64, Lf.lst 2] [X.d (D.int IntKind.i64 x0), X.d (D.list 2 r1)]), (1, Blk.mk [Lf.int IntKind.i64, Lf.lst 2] [X.d (D.int IntKind.i64 x2), X.nilL 2])] [] 2 0 0) (finK (Sh.owns
  (shp 54)) (SFunc.results sf54) 0)
noncomputable def q53_0 (Γ : SemL) (n1 : Nat) (n2 : Nat) (x0 : Int) (r1 : List (List D)) (x2 : Int) (x3 : Int) (x4 : Int) (x5 : Int) : Option Out := Jn Γ shp n1 j53_0 (St.mk [(1, V.one (X.d
  (D.int IntKind.i64 x0))), (4, V.one (X.ptr 0 0)), (6, V.one (X.ptr 1 0)), (58, V.one (X.d (D.list 3 r1))), (59, V.one (X.d (D.int IntKind.i64 x2))), (60, V.one (X.d (D.int IntKind.i64
  x3)))] [(0, Blk.mk [Lf.int IntKind.i64, Lf.lst 2] [X.d (D.int IntKind.i64 x4), X.nilL 2]), (1, Blk.mk [Lf.int IntKind.i64, Lf.lst 2] [X.d (D.int IntKind.i64 x5), X.nilL 2])] [] 2 0 0)
  (kLoop (loopK Γ shp n1) [1, 4, 6, 58, 59, 60] lb53_0 (kBlk 1 (kSeq (some [4, 6]) (fun s K => Jn Γ shp n2 j53_3 s K) (kBlk 0 (kSeq (some [4, 6]) (fun s K => Jn Γ shp n2 j53_8 s K) (finK
  (Sh.owns (shp 53)) (SFunc.results sf53) 0))))))
noncomputable def q53_3 (Γ : SemL) (n1 : Nat) (x0 : Int) (x1 : Int) : Option Out := Jn Γ shp n1 j53_3 (St.mk [(4, V.one (X.ptr 0 0)), (6, V.one (X.ptr 1 0))] [(0, Blk.mk [Lf.int IntKind.i64,
  Lf.lst 2] [X.d (D.int IntKind.i64 x0), X.nilL 2]), (1, Blk.mk [Lf.int IntKind.i64, Lf.lst 2] [X.d (D.int IntKind.i64 x1), X.nilL 2])] [] 2 0 0) (kBlk 0 (kSeq (some [4, 6]) (fun s K => Jn Γ
  shp n1 j53_8 s K) (finK (Sh.owns (shp 53)) (SFunc.results sf53) 0)))
noncomputable def q53_4 (Γ : SemL) (n1 : Nat) (n2 : Nat) (x0 : Int) (r1 : List (List D)) (x2 : Int) (x3 : Int) (x4 : Int) (x5 : Int) (x6 : Int) : Option Out := Jn Γ shp n1 j53_4 (St.mk [(1,
  V.one (X.d (D.int IntKind.i64 x0))), (4, V.one (X.ptr 0 0)), (6, V.one (X.ptr 1 0)), (11, V.one (X.ptr 2 0)), (98, V.one (X.d (D.list 3 r1))), (99, V.one (X.d (D.int IntKind.i64 x2))),
  (100, V.one (X.d (D.int IntKind.i64 x3)))] [(0, Blk.mk [Lf.int IntKind.i64, Lf.lst 2] [X.d (D.int IntKind.i64 x4), X.nilL 2]), (1, Blk.mk [Lf.int IntKind.i64, Lf.lst 2] [X.d (D.int
  IntKind.i64 x5), X.nilL 2]), (2, Blk.mk [Lf.int IntKind.i64, Lf.lst 2] [X.d (D.int IntKind.i64 x6), X.nilL 2])] [] 3 0 0) (kLoop (loopK Γ shp n1) [1, 4, 6, 11, 98, 99, 100] lb53_1 (kBlk 3
  (kSeq (some [4, 6, 11]) (fun s K => Jn Γ shp n2 j53_7 s K) (kBlk 0 (kSeq (some [4, 6]) (fun s K => Jn Γ shp n2 j53_8 s K) (finK (Sh.owns (shp 53)) (SFunc.results sf53) 0))))))
noncomputable def q53_7 (Γ : SemL) (n1 : Nat) (x0 : Int) (x1 : Int) (x2 : Int) : Option Out := Jn Γ shp n1 j53_7 (St.mk [(4, V.one (X.ptr 0 0)), (6, V.one (X.ptr 1 0)), (11, V.one (X.ptr 2
  0))] [(0, Blk.mk [Lf.int IntKind.i64, Lf.lst 2] [X.d (D.int IntKind.i64 x0), X.nilL 2]), (1, Blk.mk [Lf.int IntKind.i64, Lf.lst 2] [X.d (D.int IntKind.i64 x1), X.nilL 2]), (2, Blk.mk
  [Lf.int IntKind.i64, Lf.lst 2] [X.d (D.int IntKind.i64 x2), X.nilL 2])] [] 3 0 0) (kBlk 0 (kSeq (some [4, 6]) (fun s K => Jn Γ shp n1 j53_8 s K) (finK (Sh.owns (shp 53)) (SFunc.results
  sf53) 0)))
noncomputable def l54_0 (n0 : Nat) (Γ : SemL) (n2 : Nat) (r0 : List (List D)) (x1 : Int) (x2 : Int) (x3 : Int) (x4 : Int) : Option Out := loopK Γ shp n0 [2, 3, 14, 15, 16] lb54_0 (St.mk [(2,
  V.one (X.ptr 0 0)), (3, V.one (X.ptr 1 0)), (14, V.one (X.d (D.list 2 r0))), (15, V.one (X.d (D.int IntKind.i64 x1))), (16, V.one (X.d (D.int IntKind.i64 x2)))] [(0, Blk.mk [Lf.int
  IntKind.i64, Lf.lst 2] [X.d (D.int IntKind.i64 x3), X.nilL 2]), (1, Blk.mk [Lf.int IntKind.i64, Lf.lst 2] [X.d (D.int IntKind.i64 x4), X.nilL 2])] [] 2 0 0) (kBlk 0 (kSeq (some [2, 3]) (fun
  s K => Jn Γ shp n2 j54_3 s K) (finK (Sh.owns (shp 54)) (SFunc.results sf54) 0)))
noncomputable def q53_1 (Γ : SemL) (n1 : Nat) (n2 : Nat) (x0 : Int) (r1 : List (List D)) (x2 : Int) (x3 : Int) (x4 : Int) (x5 : Int) (x6 : Int) (r7 : List (List D)) : Option Out := Jn Γ shp
  n1 j53_1 (St.mk [(1, V.one (X.d (D.int IntKind.i64 x0))), (4, V.one (X.ptr 0 0)), (6, V.one (X.ptr 1 0)), (9, V.one (X.ptr 2 0)), (58, V.one (X.d (D.list 3 r1))), (59, V.one (X.d (D.int
  IntKind.i64 x2))), (60, V.one (X.d (D.int IntKind.i64 x3)))] [(0, Blk.mk [Lf.int IntKind.i64, Lf.lst 2] [X.d (D.int IntKind.i64 x4), X.nilL 2]), (1, Blk.mk [Lf.int IntKind.i64, Lf.lst 2]
  [X.d (D.int IntKind.i64 x5), X.nilL 2]), (2, Blk.mk [Lf.int IntKind.i64, Lf.lst 2] [X.d (D.int IntKind.i64 x6), X.d (D.list 2 r7)])] [] 3 0 0) (kBlk 2 (kSeq (some [1, 4, 6, 58, 59, 60])
  (fun s K => Jn Γ shp n1 j53_2 s K) (kLoop (loopK Γ shp n1) [1, 4, 6, 58, 59, 60] lb53_0 (kBlk 1 (kSeq (some [4, 6]) (fun s K => Jn Γ shp n2 j53_3 s K) (kBlk 0 (kSeq (some [4, 6]) (fun s K
  => Jn Γ shp n2 j53_8 s K) (finK (Sh.owns (shp 53)) (SFunc.results sf53) 0))))))))
noncomputable def e75 (Γ : SemL) (n1 : Nat) (x0 : Int) (x1 : Int) (r2 : List (List D)) : Option Out := runF Γ shp (Sh.owns (shp 75)) sf75 n1 [V.agg [X.d (D.int IntKind.i64 x0), X.nilL 2],
  V.agg [X.d (D.int IntKind.i64 x1), X.d (D.list 2 r2)]] []
noncomputable def q53_5 (Γ : SemL) (n1 : Nat) (n2 : Nat) (x0 : Int) (b1 : Bool) (r2 : List (List D)) (x3 : Int) (x4 : Int) (x5 : Int) (x6 : Int) (x7 : Int) (r8 : List (List D)) : Option Out
  := Jn Γ shp n1 j53_5 (St.mk [(1, V.one (X.d (D.int IntKind.i64 x0))), (4, V.one (X.ptr 0 0)), (6, V.one (X.ptr 1 0)), (11, V.one (X.ptr 2 0)), (15, V.one (X.d (D.bool b1))), (98, V.one (X.d
  (D.list 3 r2))), (99, V.one (X.d (D.int IntKind.i64 x3))), (100, V.one (X.d (D.int IntKind.i64 x4)))] [(0, Blk.mk [Lf.int IntKind.i64, Lf.lst 2] [X.d (D.int IntKind.i64 x5), X.nilL 2]), (1,
  Blk.mk [Lf.int IntKind.i64, Lf.lst 2] [X.d (D.int IntKind.i64 x6), X.nilL 2]), (2, Blk.mk [Lf.int IntKind.i64, Lf.lst 2] [X.d (D.int IntKind.i64 x7), X.d (D.list 2 r8)])] [] 3 0 0) (kBlk 4
  (kSeq (some [1, 4, 6, 11, 98, 99, 100]) (fun s K => Jn Γ shp n1 j53_6 s K) (kLoop (loopK Γ shp n1) [1, 4, 6, 11, 98, 99, 100] lb53_1 (kBlk 3 (kSeq (some [4, 6, 11]) (fun s K => Jn Γ shp n2
  j53_7 s K) (kBlk 0 (kSeq (some [4, 6]) (fun s K => Jn Γ shp n2 j53_8 s K) (finK (Sh.owns (shp 53)) (SFunc.results sf53) 0))))))))
noncomputable def q53_5_v1 (Γ : SemL) (n1 : Nat) (n2 : Nat) (x0 : Int) (b1 : Bool) (r2 : List (List D)) (x3 : Int) (x4 : Int) (x5 : Int) (x6 : Int) (x7 : Int) : Option Out := Jn Γ shp n1
  j53_5 (St.mk [(1, V.one (X.d (D.int IntKind.i64 x0))), (4, V.one (X.ptr 0 0)), (6, V.one (X.ptr 1 0)), (11, V.one (X.ptr 2 0)), (15, V.one (X.d (D.bool b1))), (98, V.one (X.d (D.list 3
  r2))), (99, V.one (X.d (D.int IntKind.i64 x3))), (100, V.one (X.d (D.int IntKind.i64 x4)))] [(0, Blk.mk [Lf.int IntKind.i64, Lf.lst 2] [X.d (D.int IntKind.i64 x5), X.nilL 2]), (1, Blk.mk
  [Lf.int IntKind.i64, Lf.lst 2] [X.d (D.int IntKind.i64 x6), X.nilL 2]), (2, Blk.mk [Lf.int IntKind.i64, Lf.lst 2] [X.d (D.int IntKind.i64 x7), X.nilL 2])] [] 3 0 0) (kBlk 4 (kSeq (some [1,
  4, 6, 11, 98, 99, 100]) (fun s K => Jn Γ shp n1 j53_6 s K) (kLoop (loopK Γ shp n1) [1, 4, 6, 11, 98, 99, 100] lb53_1 (kBlk 3 (kSeq (some [4, 6, 11]) (fun s K => Jn Γ shp n2 j53_7 s K) (kBlk
  0 (kSeq (some [4, 6]) (fun s K => Jn Γ shp n2 j53_8 s K) (finK (Sh.owns (shp 53)) (SFunc.results sf53) 0))))))))
noncomputable def q54_1 (Γ : SemL) (n1 : Nat) (n2 : Nat) (r0 : List (List D)) (x1 : Int) (x2 : Int) (x3 : Int) (x4 : Int) : Option Out := Jn Γ shp n1 j54_1 (St.mk [(2, V.one (X.ptr 0 0)), (3,
  V.one (X.ptr 1 0)), (14, V.one (X.d (D.list 2 r0))), (15, V.one (X.d (D.int IntKind.i64 x1))), (16, V.one (X.d (D.int IntKind.i64 x2)))] [(0, Blk.mk [Lf.int IntKind.i64, Lf.lst 2] [X.d
  (D.int IntKind.i64 x3), X.nilL 2]), (1, Blk.mk [Lf.int IntKind.i64, Lf.lst 2] [X.d (D.int IntKind.i64 x4), X.nilL 2])] [] 2 0 0) (kLoop (loopK Γ shp n1) [2, 3, 14, 15, 16] lb54_0 (kBlk 0
  (kSeq (some [2, 3]) (fun s K => Jn Γ shp n2 j54_3 s K) (finK (Sh.owns (shp 54)) (SFunc.results sf54) 0))))
noncomputable def q54_3 (Γ : SemL) (n1 : Nat) (x0 : Int) (x1 : Int) : Option Out := Jn Γ shp n1 j54_3 (St.mk [(2, V.one (X.ptr 0 0)), (3, V.one (X.ptr 1 0))] [(0, Blk.mk [Lf.int IntKind.i64,
  Lf.lst 2] [X.d (D.int IntKind.i64 x0), X.nilL 2]), (1, Blk.mk [Lf.int IntKind.i64, Lf.lst 2] [X.d (D.int IntKind.i64 x1), X.nilL 2])] [] 2 0 0) (finK (Sh.owns (shp 54)) (SFunc.results sf54)
  0)
noncomputable def q53_2 (Γ : SemL) (n1 : Nat) (n2 : Nat) (x0 : Int) (r1 : List (List D)) (x2 : Int) (x3 : Int) (x4 : Int) (x5 : Int) (r6 : List (List D)) : Option Out := Jn Γ shp n1 j53_2
  (St.mk [(1, V.one (X.d (D.int IntKind.i64 x0))), (4, V.one (X.ptr 0 0)), (6, V.one (X.ptr 1 0)), (58, V.one (X.d (D.list 3 r1))), (59, V.one (X.d (D.int IntKind.i64 x2))), (60, V.one (X.d
  (D.int IntKind.i64 x3)))] [(0, Blk.mk [Lf.int IntKind.i64, Lf.lst 2] [X.d (D.int IntKind.i64 x4), X.nilL 2]), (1, Blk.mk [Lf.int IntKind.i64, Lf.lst 2] [X.d (D.int IntKind.i64 x5), X.own 0
  24 2 r6])] [0] 2 1 0) (kLoop (loopK Γ shp n1) [1, 4, 6, 58, 59, 60] lb53_0 (kBlk 1 (kSeq (some [4, 6]) (fun s K => Jn Γ shp n2 j53_3 s K) (kBlk 0 (kSeq (some [4, 6]) (fun s K => Jn Γ shp n2
  j53_8 s K) (finK (Sh.owns (shp 53)) (SFunc.results sf53) 0))))))
noncomputable def q75_0 (Γ : SemL) (n1 : Nat) (x0 : Int) (x1 : Int) (r2 : List (List D)) (x3 : Int) : Option Out := Jn Γ shp n1 j75_0 (St.mk [(2, V.one (X.ptr 0 0)), (3, V.one (X.ptr 1 0)),
  (4, V.one (X.ptr 2 0))] [(0, Blk.mk [Lf.int IntKind.i64, Lf.lst 2] [X.d (D.int IntKind.i64 x0), X.nilL 2]), (1, Blk.mk [Lf.int IntKind.i64, Lf.lst 2] [X.d (D.int IntKind.i64 x1), X.d
  (D.list 2 r2)]), (2, Blk.mk [Lf.int IntKind.i64, Lf.lst 2] [X.d (D.int IntKind.i64 x3), X.nilL 2])] [] 3 0 0) (finK (Sh.owns (shp 75)) (SFunc.results sf75) 0)
noncomputable def q53_6 (Γ : SemL) (n1 : Nat) (n2 : Nat) (x0 : Int) (r1 : List (List D)) (x2 : Int) (x3 : Int) (x4 : Int) (x5 : Int) (x6 : Int) (r7 : List (List D)) : Option Out := Jn Γ shp
  n1 j53_6 (St.mk [(1, V.one (X.d (D.int IntKind.i64 x0))), (4, V.one (X.ptr 0 0)), (6, V.one (X.ptr 1 0)), (11, V.one (X.ptr 2 0)), (98, V.one (X.d (D.list 3 r1))), (99, V.one (X.d (D.int
  IntKind.i64 x2))), (100, V.one (X.d (D.int IntKind.i64 x3)))] [(0, Blk.mk [Lf.int IntKind.i64, Lf.lst 2] [X.d (D.int IntKind.i64 x4), X.nilL 2]), (1, Blk.mk [Lf.int IntKind.i64, Lf.lst 2]
  [X.d (D.int IntKind.i64 x5), X.nilL 2]), (2, Blk.mk [Lf.int IntKind.i64, Lf.lst 2] [X.d (D.int IntKind.i64 x6), X.d (D.list 2 r7)])] [] 3 0 0) (kLoop (loopK Γ shp n1) [1, 4, 6, 11, 98, 99,
  100] lb53_1 (kBlk 3 (kSeq (some [4, 6, 11]) (fun s K => Jn Γ shp n2 j53_7 s K) (kBlk 0 (kSeq (some [4, 6]) (fun s K => Jn Γ shp n2 j53_8 s K) (finK (Sh.owns (shp 53)) (SFunc.results sf53)
  0))))))
noncomputable def q53_6_v1 (Γ : SemL) (n1 : Nat) (n2 : Nat) (x0 : Int) (r1 : List (List D)) (x2 : Int) (x3 : Int) (x4 : Int) (x5 : Int) (x6 : Int) : Option Out := Jn Γ shp n1 j53_6 (St.mk
  [(1, V.one (X.d (D.int IntKind.i64 x0))), (4, V.one (X.ptr 0 0)), (6, V.one (X.ptr 1 0)), (11, V.one (X.ptr 2 0)), (98, V.one (X.d (D.list 3 r1))), (99, V.one (X.d (D.int IntKind.i64 x2))),
  (100, V.one (X.d (D.int IntKind.i64 x3)))] [(0, Blk.mk [Lf.int IntKind.i64, Lf.lst 2] [X.d (D.int IntKind.i64 x4), X.nilL 2]), (1, Blk.mk [Lf.int IntKind.i64, Lf.lst 2] [X.d (D.int
  IntKind.i64 x5), X.nilL 2]), (2, Blk.mk [Lf.int IntKind.i64, Lf.lst 2] [X.d (D.int IntKind.i64 x6), X.nilL 2])] [] 3 0 0) (kLoop (loopK Γ shp n1) [1, 4, 6, 11, 98, 99, 100] lb53_1 (kBlk 3
  (kSeq (some [4, 6, 11]) (fun s K => Jn Γ shp n2 j53_7 s K) (kBlk 0 (kSeq (some [4, 6]) (fun s K => Jn Γ shp n2 j53_8 s K) (finK (Sh.owns (shp 53)) (SFunc.results sf53) 0))))))
noncomputable def q54_2 (Γ : SemL) (n1 : Nat) (n2 : Nat) (r0 : List (List D)) (x1 : Int) (x2 : Int) (x3 : Int) (x4 : Int) (r5 : List (List D)) : Option Out := Jn Γ shp n1 j54_2 (St.mk [(2,
  V.one (X.ptr 0 0)), (3, V.one (X.ptr 1 0)), (14, V.one (X.d (D.list 2 r0))), (15, V.one (X.d (D.int IntKind.i64 x1))), (16, V.one (X.d (D.int IntKind.i64 x2)))] [(0, Blk.mk [Lf.int
  IntKind.i64, Lf.lst 2] [X.d (D.int IntKind.i64 x3), X.nilL 2]), (1, Blk.mk [Lf.int IntKind.i64, Lf.lst 2] [X.d (D.int IntKind.i64 x4), X.own 0 24 2 r5])] [0] 2 1 0) (kLoop (loopK Γ shp n1)
  [2, 3, 14, 15, 16] lb54_0 (kBlk 0 (kSeq (some [2, 3]) (fun s K => Jn Γ shp n2 j54_3 s K) (finK (Sh.owns (shp 54)) (SFunc.results sf54) 0))))
noncomputable def l53_0_v1 (n0 : Nat) (Γ : SemL) (n2 : Nat) (x0 : Int) (r1 : List (List D)) (x2 : Int) (x3 : Int) (x4 : Int) (x5 : Int) (r6 : List (List D)) : Option Out := loopK Γ shp n0 [1,
  4, 6, 58, 59, 60] lb53_0 (St.mk [(1, V.one (X.d (D.int IntKind.i64 x0))), (4, V.one (X.ptr 0 0)), (6, V.one (X.ptr 1 0)), (58, V.one (X.d (D.list 3 r1))), (59, V.one (X.d (D.int IntKind.i64
  x2))), (60, V.one (X.d (D.int IntKind.i64 x3)))] [(0, Blk.mk [Lf.int IntKind.i64, Lf.lst 2] [X.d (D.int IntKind.i64 x4), X.nilL 2]), (1, Blk.mk [Lf.int IntKind.i64, Lf.lst 2] [X.d (D.int
  IntKind.i64 x5), X.own 0 24 2 r6])] [0] 2 1 0) (kBlk 1 (kSeq (some [4, 6]) (fun s K => Jn Γ shp n2 j53_3 s K) (kBlk 0 (kSeq (some [4, 6]) (fun s K => Jn Γ shp n2 j53_8 s K) (finK (Sh.owns
  (shp 53)) (SFunc.results sf53) 0)))))
noncomputable def l75_0 (n0 : Nat) (Γ : SemL) (n2 : Nat) (x0 : Int) (x1 : Int) (x2 : Int) (x3 : Int) (r4 : List (List D)) (x5 : Int) (x6 : Int) : Option Out := loopK Γ shp n0 [2, 3, 4, 6, 41,
  42] lb75_0 (St.mk [(2, V.one (X.ptr 0 0)), (3, V.one (X.ptr 1 0)), (4, V.one (X.ptr 2 0)), (6, V.one (X.ptr 3 0)), (41, V.one (X.d (D.int IntKind.i64 x0))), (42, V.one (X.d (D.int
  IntKind.i64 x1)))] [(0, Blk.mk [Lf.int IntKind.i64, Lf.lst 2] [X.d (D.int IntKind.i64 x2), X.nilL 2]), (1, Blk.mk [Lf.int IntKind.i64, Lf.lst 2] [X.d (D.int IntKind.i64 x3), X.d (D.list 2
  r4)]), (2, Blk.mk [Lf.int IntKind.i64, Lf.lst 2] [X.d (D.int IntKind.i64 x5), X.nilL 2]), (3, Blk.mk [Lf.int IntKind.i64, Lf.lst 2] [X.d (D.int IntKind.i64 x6), X.nilL 2])] [] 4 0 0) (kBlk
  1 (kSeq (some [4, 6]) (fun s K => Jn Γ shp n2 j75_4 s K) (finK (Sh.owns (shp 75)) (SFunc.results sf75) 0)))
noncomputable def l53_1_v1 (n0 : Nat) (Γ : SemL) (n2 : Nat) (x0 : Int) (r1 : List (List D)) (x2 : Int) (x3 : Int) (x4 : Int) (x5 : Int) (x6 : Int) (r7 : List (List D)) : Option Out := loopK Γ
  shp n0 [1, 4, 6, 11, 98, 99, 100] lb53_1 (St.mk [(1, V.one (X.d (D.int IntKind.i64 x0))), (4, V.one (X.ptr 0 0)), (6, V.one (X.ptr 1 0)), (11, V.one (X.ptr 2 0)), (98, V.one (X.d (D.list 3
  r1))), (99, V.one (X.d (D.int IntKind.i64 x2))), (100, V.one (X.d (D.int IntKind.i64 x3)))] [(0, Blk.mk [Lf.int IntKind.i64, Lf.lst 2] [X.d (D.int IntKind.i64 x4), X.nilL 2]), (1, Blk.mk
  [Lf.int IntKind.i64, Lf.lst 2] [X.d (D.int IntKind.i64 x5), X.nilL 2]), (2, Blk.mk [Lf.int IntKind.i64, Lf.lst 2] [X.d (D.int IntKind.i64 x6), X.d (D.list 2 r7)])] [] 3 0 0) (kBlk 3 (kSeq
  (some [4, 6, 11]) (fun s K => Jn Γ shp n2 j53_7 s K) (kBlk 0 (kSeq (some [4, 6]) (fun s K => Jn Γ shp n2 j53_8 s K) (finK (Sh.owns (shp 53)) (SFunc.results sf53) 0)))))
noncomputable def l54_0_v1 (n0 : Nat) (Γ : SemL) (n2 : Nat) (r0 : List (List D)) (x1 : Int) (x2 : Int) (x3 : Int) (x4 : Int) (r5 : List (List D)) : Option Out := loopK Γ shp n0 [2, 3, 14, 15,
  16] lb54_0 (St.mk [(2, V.one (X.ptr 0 0)), (3, V.one (X.ptr 1 0)), (14, V.one (X.d (D.list 2 r0))), (15, V.one (X.d (D.int IntKind.i64 x1))), (16, V.one (X.d (D.int IntKind.i64 x2)))] [(0,
  Blk.mk [Lf.int IntKind.i64, Lf.lst 2] [X.d (D.int IntKind.i64 x3), X.nilL 2]), (1, Blk.mk [Lf.int IntKind.i64, Lf.lst 2] [X.d (D.int IntKind.i64 x4), X.own 0 24 2 r5])] [0] 2 1 0) (kBlk 0
  (kSeq (some [2, 3]) (fun s K => Jn Γ shp n2 j54_3 s K) (finK (Sh.owns (shp 54)) (SFunc.results sf54) 0)))
noncomputable def q53_0_v1 (Γ : SemL) (n1 : Nat) (n2 : Nat) (x0 : Int) (r1 : List (List D)) (x2 : Int) (x3 : Int) (x4 : Int) (x5 : Int) (r6 : List (List D)) : Option Out := Jn Γ shp n1 j53_0
  (St.mk [(1, V.one (X.d (D.int IntKind.i64 x0))), (4, V.one (X.ptr 0 0)), (6, V.one (X.ptr 1 0)), (58, V.one (X.d (D.list 3 r1))), (59, V.one (X.d (D.int IntKind.i64 x2))), (60, V.one (X.d
  (D.int IntKind.i64 x3)))] [(0, Blk.mk [Lf.int IntKind.i64, Lf.lst 2] [X.d (D.int IntKind.i64 x4), X.nilL 2]), (1, Blk.mk [Lf.int IntKind.i64, Lf.lst 2] [X.d (D.int IntKind.i64 x5), X.own 0
  24 2 r6])] [0] 2 1 0) (kLoop (loopK Γ shp n1) [1, 4, 6, 58, 59, 60] lb53_0 (kBlk 1 (kSeq (some [4, 6]) (fun s K => Jn Γ shp n2 j53_3 s K) (kBlk 0 (kSeq (some [4, 6]) (fun s K => Jn Γ shp n2
  j53_8 s K) (finK (Sh.owns (shp 53)) (SFunc.results sf53) 0))))))
noncomputable def q53_3_v1 (Γ : SemL) (n1 : Nat) (x0 : Int) (x1 : Int) (r2 : List (List D)) : Option Out := Jn Γ shp n1 j53_3 (St.mk [(4, V.one (X.ptr 0 0)), (6, V.one (X.ptr 1 0))] [(0,
  Blk.mk [Lf.int IntKind.i64, Lf.lst 2] [X.d (D.int IntKind.i64 x0), X.nilL 2]), (1, Blk.mk [Lf.int IntKind.i64, Lf.lst 2] [X.d (D.int IntKind.i64 x1), X.own 0 24 2 r2])] [0] 2 1 0) (kBlk 0
  (kSeq (some [4, 6]) (fun s K => Jn Γ shp n1 j53_8 s K) (finK (Sh.owns (shp 53)) (SFunc.results sf53) 0)))
noncomputable def q75_1 (Γ : SemL) (n1 : Nat) (n2 : Nat) (x0 : Int) (x1 : Int) (x2 : Int) (x3 : Int) (r4 : List (List D)) (x5 : Int) (x6 : Int) : Option Out := Jn Γ shp n1 j75_1 (St.mk [(2,
  V.one (X.ptr 0 0)), (3, V.one (X.ptr 1 0)), (4, V.one (X.ptr 2 0)), (6, V.one (X.ptr 3 0)), (41, V.one (X.d (D.int IntKind.i64 x0))), (42, V.one (X.d (D.int IntKind.i64 x1)))] [(0, Blk.mk
  [Lf.int IntKind.i64, Lf.lst 2] [X.d (D.int IntKind.i64 x2), X.nilL 2]), (1, Blk.mk [Lf.int IntKind.i64, Lf.lst 2] [X.d (D.int IntKind.i64 x3), X.d (D.list 2 r4)]), (2, Blk.mk [Lf.int
  IntKind.i64, Lf.lst 2] [X.d (D.int IntKind.i64 x5), X.nilL 2]), (3, Blk.mk [Lf.int IntKind.i64, Lf.lst 2] [X.d (D.int IntKind.i64 x6), X.nilL 2])] [] 4 0 0) (kLoop (loopK Γ shp n1) [2, 3,
  4, 6, 41, 42] lb75_0 (kBlk 1 (kSeq (some [4, 6]) (fun s K => Jn Γ shp n2 j75_4 s K) (finK (Sh.owns (shp 75)) (SFunc.results sf75) 0))))
noncomputable def q75_4 (Γ : SemL) (n1 : Nat) (x0 : Int) (x1 : Int) : Option Out := Jn Γ shp n1 j75_4 (St.mk [(4, V.one (X.ptr 0 0)), (6, V.one (X.ptr 1 0))] [(0, Blk.mk [Lf.int IntKind.i64,
  Lf.lst 2] [X.d (D.int IntKind.i64 x0), X.nilL 2]), (1, Blk.mk [Lf.int IntKind.i64, Lf.lst 2] [X.d (D.int IntKind.i64 x1), X.nilL 2])] [] 2 0 0) (finK (Sh.owns (shp 75)) (SFunc.results sf75)
  0)
noncomputable def q53_4_v1 (Γ : SemL) (n1 : Nat) (n2 : Nat) (x0 : Int) (r1 : List (List D)) (x2 : Int) (x3 : Int) (x4 : Int) (x5 : Int) (x6 : Int) (r7 : List (List D)) : Option Out := Jn Γ
  shp n1 j53_4 (St.mk [(1, V.one (X.d (D.int IntKind.i64 x0))), (4, V.one (X.ptr 0 0)), (6, V.one (X.ptr 1 0)), (11, V.one (X.ptr 2 0)), (98, V.one (X.d (D.list 3 r1))), (99, V.one (X.d
  (D.int IntKind.i64 x2))), (100, V.one (X.d (D.int IntKind.i64 x3)))] [(0, Blk.mk [Lf.int IntKind.i64, Lf.lst 2] [X.d (D.int IntKind.i64 x4), X.nilL 2]), (1, Blk.mk [Lf.int IntKind.i64,
  Lf.lst 2] [X.d (D.int IntKind.i64 x5), X.nilL 2]), (2, Blk.mk [Lf.int IntKind.i64, Lf.lst 2] [X.d (D.int IntKind.i64 x6), X.d (D.list 2 r7)])] [] 3 0 0) (kLoop (loopK Γ shp n1) [1, 4, 6,
  11, 98, 99, 100] lb53_1 (kBlk 3 (kSeq (some [4, 6, 11]) (fun s K => Jn Γ shp n2 j53_7 s K) (kBlk 0 (kSeq (some [4, 6]) (fun s K => Jn Γ shp n2 j53_8 s K) (finK (Sh.owns (shp 53))
  (SFunc.results sf53) 0))))))
noncomputable def q53_7_v1 (Γ : SemL) (n1 : Nat) (x0 : Int) (x1 : Int) (x2 : Int) (r3 : List (List D)) : Option Out := Jn Γ shp n1 j53_7 (St.mk [(4, V.one (X.ptr 0 0)), (6, V.one (X.ptr 1
  0)), (11, V.one (X.ptr 2 0))] [(0, Blk.mk [Lf.int IntKind.i64, Lf.lst 2] [X.d (D.int IntKind.i64 x0), X.nilL 2]), (1, Blk.mk [Lf.int IntKind.i64, Lf.lst 2] [X.d (D.int IntKind.i64 x1),
  X.nilL 2]), (2, Blk.mk [Lf.int IntKind.i64, Lf.lst 2] [X.d (D.int IntKind.i64 x2), X.d (D.list 2 r3)])] [] 3 0 0) (kBlk 0 (kSeq (some [4, 6]) (fun s K => Jn Γ shp n1 j53_8 s K) (finK
  (Sh.owns (shp 53)) (SFunc.results sf53) 0)))
noncomputable def q54_1_v1 (Γ : SemL) (n1 : Nat) (n2 : Nat) (r0 : List (List D)) (x1 : Int) (x2 : Int) (x3 : Int) (x4 : Int) (r5 : List (List D)) : Option Out := Jn Γ shp n1 j54_1 (St.mk [(2,
  V.one (X.ptr 0 0)), (3, V.one (X.ptr 1 0)), (14, V.one (X.d (D.list 2 r0))), (15, V.one (X.d (D.int IntKind.i64 x1))), (16, V.one (X.d (D.int IntKind.i64 x2)))] [(0, Blk.mk [Lf.int
  IntKind.i64, Lf.lst 2] [X.d (D.int IntKind.i64 x3), X.nilL 2]), (1, Blk.mk [Lf.int IntKind.i64, Lf.lst 2] [X.d (D.int IntKind.i64 x4), X.own 0 24 2 r5])] [0] 2 1 0) (kLoop (loopK Γ shp n1)
  [2, 3, 14, 15, 16] lb54_0 (kBlk 0 (kSeq (some [2, 3]) (fun s K => Jn Γ shp n2 j54_3 s K) (finK (Sh.owns (shp 54)) (SFunc.results sf54) 0))))
noncomputable def q54_3_v1 (Γ : SemL) (n1 : Nat) (x0 : Int) (x1 : Int) (r2 : List (List D)) : Option Out := Jn Γ shp n1 j54_3 (St.mk [(2, V.one (X.ptr 0 0)), (3, V.one (X.ptr 1 0))] [(0,
  Blk.mk [Lf.int IntKind.i64, Lf.lst 2] [X.d (D.int IntKind.i64 x0), X.nilL 2]), (1, Blk.mk [Lf.int IntKind.i64, Lf.lst 2] [X.d (D.int IntKind.i64 x1), X.own 0 24 2 r2])] [0] 2 1 0) (finK
  (Sh.owns (shp 54)) (SFunc.results sf54) 0)
noncomputable def q53_1_v1 (Γ : SemL) (n1 : Nat) (n2 : Nat) (x0 : Int) (r1 : List (List D)) (x2 : Int) (x3 : Int) (x4 : Int) (x5 : Int) (r6 : List (List D)) (x7 : Int) (r8 : List (List D)) :
  Option Out := Jn Γ shp n1 j53_1 (St.mk [(1, V.one (X.d (D.int IntKind.i64 x0))), (4, V.one (X.ptr 0 0)), (6, V.one (X.ptr 1 0)), (9, V.one (X.ptr 2 0)), (58, V.one (X.d (D.list 3 r1))),
  (59, V.one (X.d (D.int IntKind.i64 x2))), (60, V.one (X.d (D.int IntKind.i64 x3)))] [(0, Blk.mk [Lf.int IntKind.i64, Lf.lst 2] [X.d (D.int IntKind.i64 x4), X.nilL 2]), (1, Blk.mk [Lf.int
  IntKind.i64, Lf.lst 2] [X.d (D.int IntKind.i64 x5), X.own 0 24 2 r6]), (2, Blk.mk [Lf.int IntKind.i64, Lf.lst 2] [X.d (D.int IntKind.i64 x7), X.d (D.list 2 r8)])] [0] 3 1 0) (kBlk 2 (kSeq
  (some [1, 4, 6, 58, 59, 60]) (fun s K => Jn Γ shp n1 j53_2 s K) (kLoop (loopK Γ shp n1) [1, 4, 6, 58, 59, 60] lb53_0 (kBlk 1 (kSeq (some [4, 6]) (fun s K => Jn Γ shp n2 j53_3 s K) (kBlk 0
  (kSeq (some [4, 6]) (fun s K => Jn Γ shp n2 j53_8 s K) (finK (Sh.owns (shp 53)) (SFunc.results sf53) 0))))))))
noncomputable def e75_v1 (Γ : SemL) (n1 : Nat) (x0 : Int) (r1 : List (List D)) : Option Out := runF Γ shp (Sh.owns (shp 75)) sf75 n1 [V.agg [X.d D.junk, X.d D.junk], V.agg [X.d (D.int
  IntKind.i64 x0), X.d (D.list 2 r1)]] []
noncomputable def q75_2 (Γ : SemL) (n1 : Nat) (n2 : Nat) (x0 : Int) (x1 : Int) (x2 : Int) (x3 : Int) (r4 : List (List D)) (x5 : Int) (x6 : Int) (x7 : Int) (r8 : List (List D)) : Option Out :=
  Jn Γ shp n1 j75_2 (St.mk [(2, V.one (X.ptr 0 0)), (3, V.one (X.ptr 1 0)), (4, V.one (X.ptr 2 0)), (6, V.one (X.ptr 3 0)), (8, V.one (X.ptr 4 0)), (41, V.one (X.d (D.int IntKind.i64 x0))),
  (42, V.one (X.d (D.int IntKind.i64 x1)))] [(0, Blk.mk [Lf.int IntKind.i64, Lf.lst 2] [X.d (D.int IntKind.i64 x2), X.nilL 2]), (1, Blk.mk [Lf.int IntKind.i64, Lf.lst 2] [X.d (D.int
  IntKind.i64 x3), X.d (D.list 2 r4)]), (2, Blk.mk [Lf.int IntKind.i64, Lf.lst 2] [X.d (D.int IntKind.i64 x5), X.nilL 2]), (3, Blk.mk [Lf.int IntKind.i64, Lf.lst 2] [X.d (D.int IntKind.i64
  x6), X.nilL 2]), (4, Blk.mk [Lf.int IntKind.i64, Lf.lst 2] [X.d (D.int IntKind.i64 x7), X.d (D.list 2 r8)])] [] 5 0 0) (kBlk 2 (kSeq (some [2, 3, 4, 6, 41, 42]) (fun s K => Jn Γ shp n1
  j75_3 s K) (kLoop (loopK Γ shp n1) [2, 3, 4, 6, 41, 42] lb75_0 (kBlk 1 (kSeq (some [4, 6]) (fun s K => Jn Γ shp n2 j75_4 s K) (finK (Sh.owns (shp 75)) (SFunc.results sf75) 0))))))
noncomputable def e75_v2 (Γ : SemL) (n1 : Nat) (x0 : Int) (r1 : List (List D)) (x2 : Int) (r3 : List (List D)) : Option Out := runF Γ shp (Sh.owns (shp 75)) sf75 n1 [V.agg [X.d (D.int
  IntKind.i64 x0), X.d (D.list 2 r1)], V.agg [X.d (D.int IntKind.i64 x2), X.d (D.list 2 r3)]] []
noncomputable def q75_3 (Γ : SemL) (n1 : Nat) (n2 : Nat) (x0 : Int) (x1 : Int) (x2 : Int) (x3 : Int) (r4 : List (List D)) (x5 : Int) (x6 : Int) (r7 : List (List D)) : Option Out := Jn Γ shp
  n1 j75_3 (St.mk [(2, V.one (X.ptr 0 0)), (3, V.one (X.ptr 1 0)), (4, V.one (X.ptr 2 0)), (6, V.one (X.ptr 3 0)), (41, V.one (X.d (D.int IntKind.i64 x0))), (42, V.one (X.d (D.int IntKind.i64
  x1)))] [(0, Blk.mk [Lf.int IntKind.i64, Lf.lst 2] [X.d (D.int IntKind.i64 x2), X.nilL 2]), (1, Blk.mk [Lf.int IntKind.i64, Lf.lst 2] [X.d (D.int IntKind.i64 x3), X.d (D.list 2 r4)]), (2,
  Blk.mk [Lf.int IntKind.i64, Lf.lst 2] [X.d (D.int IntKind.i64 x5), X.nilL 2]), (3, Blk.mk [Lf.int IntKind.i64, Lf.lst 2] [X.d (D.int IntKind.i64 x6), X.own 0 24 2 r7])] [0] 4 1 0) (kLoop
  (loopK Γ shp n1) [2, 3, 4, 6, 41, 42] lb75_0 (kBlk 1 (kSeq (some [4, 6]) (fun s K => Jn Γ shp n2 j75_4 s K) (finK (Sh.owns (shp 75)) (SFunc.results sf75) 0))))
noncomputable def q75_0_v1 (Γ : SemL) (n1 : Nat) (x0 : Int) (r1 : List (List D)) (x2 : Int) (r3 : List (List D)) (x4 : Int) : Option Out := Jn Γ shp n1 j75_0 (St.mk [(2, V.one (X.ptr 0 0)),
  (3, V.one (X.ptr 1 0)), (4, V.one (X.ptr 2 0))] [(0, Blk.mk [Lf.int IntKind.i64, Lf.lst 2] [X.d (D.int IntKind.i64 x0), X.d (D.list 2 r1)]), (1, Blk.mk [Lf.int IntKind.i64, Lf.lst 2] [X.d
  (D.int IntKind.i64 x2), X.d (D.list 2 r3)]), (2, Blk.mk [Lf.int IntKind.i64, Lf.lst 2] [X.d (D.int IntKind.i64 x4), X.nilL 2])] [] 3 0 0) (finK (Sh.owns (shp 75)) (SFunc.results sf75) 0)
noncomputable def l75_0_v1 (n0 : Nat) (Γ : SemL) (n2 : Nat) (x0 : Int) (x1 : Int) (x2 : Int) (x3 : Int) (r4 : List (List D)) (x5 : Int) (x6 : Int) (r7 : List (List D)) : Option Out := loopK Γ
  shp n0 [2, 3, 4, 6, 41, 42] lb75_0 (St.mk [(2, V.one (X.ptr 0 0)), (3, V.one (X.ptr 1 0)), (4, V.one (X.ptr 2 0)), (6, V.one (X.ptr 3 0)), (41, V.one (X.d (D.int IntKind.i64 x0))), (42,
  V.one (X.d (D.int IntKind.i64 x1)))] [(0, Blk.mk [Lf.int IntKind.i64, Lf.lst 2] [X.d (D.int IntKind.i64 x2), X.nilL 2]), (1, Blk.mk [Lf.int IntKind.i64, Lf.lst 2] [X.d (D.int IntKind.i64
  x3), X.d (D.list 2 r4)]), (2, Blk.mk [Lf.int IntKind.i64, Lf.lst 2] [X.d (D.int IntKind.i64 x5), X.nilL 2]), (3, Blk.mk [Lf.int IntKind.i64, Lf.lst 2] [X.d (D.int IntKind.i64 x6), X.own 0
  24 2 r7])] [0] 4 1 0) (kBlk 1 (kSeq (some [4, 6]) (fun s K => Jn Γ shp n2 j75_4 s K) (finK (Sh.owns (shp 75)) (SFunc.results sf75) 0)))
noncomputable def l75_0_v2 (n0 : Nat) (Γ : SemL) (n2 : Nat) (x0 : Int) (x1 : Int) (x2 : Int) (r3 : List (List D)) (x4 : Int) (r5 : List (List D)) (x6 : Int) (x7 : Int) : Option Out := loopK Γ
  shp n0 [2, 3, 4, 6, 41, 42] lb75_0 (St.mk [(2, V.one (X.ptr 0 0)), (3, V.one (X.ptr 1 0)), (4, V.one (X.ptr 2 0)), (6, V.one (X.ptr 3 0)), (41, V.one (X.d (D.int IntKind.i64 x0))), (42,
  V.one (X.d (D.int IntKind.i64 x1)))] [(0, Blk.mk [Lf.int IntKind.i64, Lf.lst 2] [X.d (D.int IntKind.i64 x2), X.d (D.list 2 r3)]), (1, Blk.mk [Lf.int IntKind.i64, Lf.lst 2] [X.d (D.int
  IntKind.i64 x4), X.d (D.list 2 r5)]), (2, Blk.mk [Lf.int IntKind.i64, Lf.lst 2] [X.d (D.int IntKind.i64 x6), X.nilL 2]), (3, Blk.mk [Lf.int IntKind.i64, Lf.lst 2] [X.d (D.int IntKind.i64
  x7), X.nilL 2])] [] 4 0 0) (kBlk 1 (kSeq (some [4, 6]) (fun s K => Jn Γ shp n2 j75_4 s K) (finK (Sh.owns (shp 75)) (SFunc.results sf75) 0)))
noncomputable def q75_1_v1 (Γ : SemL) (n1 : Nat) (n2 : Nat) (x0 : Int) (x1 : Int) (x2 : Int) (x3 : Int) (r4 : List (List D)) (x5 : Int) (x6 : Int) (r7 : List (List D)) : Option Out := Jn Γ
  shp n1 j75_1 (St.mk [(2, V.one (X.ptr 0 0)), (3, V.one (X.ptr 1 0)), (4, V.one (X.ptr 2 0)), (6, V.one (X.ptr 3 0)), (41, V.one (X.d (D.int IntKind.i64 x0))), (42, V.one (X.d (D.int
  IntKind.i64 x1)))] [(0, Blk.mk [Lf.int IntKind.i64, Lf.lst 2] [X.d (D.int IntKind.i64 x2), X.nilL 2]), (1, Blk.mk [Lf.int IntKind.i64, Lf.lst 2] [X.d (D.int IntKind.i64 x3), X.d (D.list 2
  r4)]), (2, Blk.mk [Lf.int IntKind.i64, Lf.lst 2] [X.d (D.int IntKind.i64 x5), X.nilL 2]), (3, Blk.mk [Lf.int IntKind.i64, Lf.lst 2] [X.d (D.int IntKind.i64 x6), X.own 0 24 2 r7])] [0] 4 1
  0) (kLoop (loopK Γ shp n1) [2, 3, 4, 6, 41, 42] lb75_0 (kBlk 1 (kSeq (some [4, 6]) (fun s K => Jn Γ shp n2 j75_4 s K) (finK (Sh.owns (shp 75)) (SFunc.results sf75) 0))))
noncomputable def q75_4_v1 (Γ : SemL) (n1 : Nat) (x0 : Int) (x1 : Int) (r2 : List (List D)) : Option Out := Jn Γ shp n1 j75_4 (St.mk [(4, V.one (X.ptr 0 0)), (6, V.one (X.ptr 1 0))] [(0,
  Blk.mk [Lf.int IntKind.i64, Lf.lst 2] [X.d (D.int IntKind.i64 x0), X.nilL 2]), (1, Blk.mk [Lf.int IntKind.i64, Lf.lst 2] [X.d (D.int IntKind.i64 x1), X.own 0 24 2 r2])] [0] 2 1 0) (finK
  (Sh.owns (shp 75)) (SFunc.results sf75) 0)
noncomputable def q75_1_v2 (Γ : SemL) (n1 : Nat) (n2 : Nat) (x0 : Int) (x1 : Int) (x2 : Int) (r3 : List (List D)) (x4 : Int) (r5 : List (List D)) (x6 : Int) (x7 : Int) : Option Out := Jn Γ
  shp n1 j75_1 (St.mk [(2, V.one (X.ptr 0 0)), (3, V.one (X.ptr 1 0)), (4, V.one (X.ptr 2 0)), (6, V.one (X.ptr 3 0)), (41, V.one (X.d (D.int IntKind.i64 x0))), (42, V.one (X.d (D.int
  IntKind.i64 x1)))] [(0, Blk.mk [Lf.int IntKind.i64, Lf.lst 2] [X.d (D.int IntKind.i64 x2), X.d (D.list 2 r3)]), (1, Blk.mk [Lf.int IntKind.i64, Lf.lst 2] [X.d (D.int IntKind.i64 x4), X.d
  (D.list 2 r5)]), (2, Blk.mk [Lf.int IntKind.i64, Lf.lst 2] [X.d (D.int IntKind.i64 x6), X.nilL 2]), (3, Blk.mk [Lf.int IntKind.i64, Lf.lst 2] [X.d (D.int IntKind.i64 x7), X.nilL 2])] [] 4 0
  0) (kLoop (loopK Γ shp n1) [2, 3, 4, 6, 41, 42] lb75_0 (kBlk 1 (kSeq (some [4, 6]) (fun s K => Jn Γ shp n2 j75_4 s K) (finK (Sh.owns (shp 75)) (SFunc.results sf75) 0))))
noncomputable def q75_2_v1 (Γ : SemL) (n1 : Nat) (n2 : Nat) (x0 : Int) (x1 : Int) (x2 : Int) (x3 : Int) (r4 : List (List D)) (x5 : Int) (x6 : Int) (r7 : List (List D)) (x8 : Int) (r9 : List
  (List D)) : Option Out := Jn Γ shp n1 j75_2 (St.mk [(2, V.one (X.ptr 0 0)), (3, V.one (X.ptr 1 0)), (4, V.one (X.ptr 2 0)), (6, V.one (X.ptr 3 0)), (8, V.one (X.ptr 4 0)), (41, V.one (X.d
  (D.int IntKind.i64 x0))), (42, V.one (X.d (D.int IntKind.i64 x1)))] [(0, Blk.mk [Lf.int IntKind.i64, Lf.lst 2] [X.d (D.int IntKind.i64 x2), X.nilL 2]), (1, Blk.mk [Lf.int IntKind.i64,
  Lf.lst 2] [X.d (D.int IntKind.i64 x3), X.d (D.list 2 r4)]), (2, Blk.mk [Lf.int IntKind.i64, Lf.lst 2] [X.d (D.int IntKind.i64 x5), X.nilL 2]), (3, Blk.mk [Lf.int IntKind.i64, Lf.lst 2] [X.d
  (D.int IntKind.i64 x6), X.own 0 24 2 r7]), (4, Blk.mk [Lf.int IntKind.i64, Lf.lst 2] [X.d (D.int IntKind.i64 x8), X.d (D.list 2 r9)])] [0] 5 1 0) (kBlk 2 (kSeq (some [2, 3, 4, 6, 41, 42])
  (fun s K => Jn Γ shp n1 j75_3 s K) (kLoop (loopK Γ shp n1) [2, 3, 4, 6, 41, 42] lb75_0 (kBlk 1 (kSeq (some [4, 6]) (fun s K => Jn Γ shp n2 j75_4 s K) (finK (Sh.owns (shp 75)) (SFunc.results
  sf75) 0))))))
noncomputable def q75_2_v2 (Γ : SemL) (n1 : Nat) (n2 : Nat) (x0 : Int) (x1 : Int) (x2 : Int) (r3 : List (List D)) (x4 : Int) (r5 : List (List D)) (x6 : Int) (x7 : Int) (x8 : Int) (r9 : List
  (List D)) : Option Out := Jn Γ shp n1 j75_2 (St.mk [(2, V.one (X.ptr 0 0)), (3, V.one (X.ptr 1 0)), (4, V.one (X.ptr 2 0)), (6, V.one (X.ptr 3 0)), (8, V.one (X.ptr 4 0)), (41, V.one (X.d
  (D.int IntKind.i64 x0))), (42, V.one (X.d (D.int IntKind.i64 x1)))] [(0, Blk.mk [Lf.int IntKind.i64, Lf.lst 2] [X.d (D.int IntKind.i64 x2), X.d (D.list 2 r3)]), (1, Blk.mk [Lf.int
  IntKind.i64, Lf.lst 2] [X.d (D.int IntKind.i64 x4), X.d (D.list 2 r5)]), (2, Blk.mk [Lf.int IntKind.i64, Lf.lst 2] [X.d (D.int IntKind.i64 x6), X.nilL 2]), (3, Blk.mk [Lf.int IntKind.i64,
  Lf.lst 2] [X.d (D.int IntKind.i64 x7), X.nilL 2]), (4, Blk.mk [Lf.int IntKind.i64, Lf.lst 2] [X.d (D.int IntKind.i64 x8), X.d (D.list 2 r9)])] [] 5 0 0) (kBlk 2 (kSeq (some [2, 3, 4, 6, 41,
  42]) (fun s K => Jn Γ shp n1 j75_3 s K) (kLoop (loopK Γ shp n1) [2, 3, 4, 6, 41, 42] lb75_0 (kBlk 1 (kSeq (some [4, 6]) (fun s K => Jn Γ shp n2 j75_4 s K) (finK (Sh.owns (shp 75))
  (SFunc.results sf75) 0))))))
noncomputable def q75_3_v1 (Γ : SemL) (n1 : Nat) (n2 : Nat) (x0 : Int) (x1 : Int) (x2 : Int) (r3 : List (List D)) (x4 : Int) (r5 : List (List D)) (x6 : Int) (x7 : Int) (r8 : List (List D)) :
  Option Out := Jn Γ shp n1 j75_3 (St.mk [(2, V.one (X.ptr 0 0)), (3, V.one (X.ptr 1 0)), (4, V.one (X.ptr 2 0)), (6, V.one (X.ptr 3 0)), (41, V.one (X.d (D.int IntKind.i64 x0))), (42, V.one
  (X.d (D.int IntKind.i64 x1)))] [(0, Blk.mk [Lf.int IntKind.i64, Lf.lst 2] [X.d (D.int IntKind.i64 x2), X.d (D.list 2 r3)]), (1, Blk.mk [Lf.int IntKind.i64, Lf.lst 2] [X.d (D.int IntKind.i64
  x4), X.d (D.list 2 r5)]), (2, Blk.mk [Lf.int IntKind.i64, Lf.lst 2] [X.d (D.int IntKind.i64 x6), X.nilL 2]), (3, Blk.mk [Lf.int IntKind.i64, Lf.lst 2] [X.d (D.int IntKind.i64 x7), X.own 0
  24 2 r8])] [0] 4 1 0) (kLoop (loopK Γ shp n1) [2, 3, 4, 6, 41, 42] lb75_0 (kBlk 1 (kSeq (some [4, 6]) (fun s K => Jn Γ shp n2 j75_4 s K) (finK (Sh.owns (shp 75)) (SFunc.results sf75) 0))))
noncomputable def l75_0_v3 (n0 : Nat) (Γ : SemL) (n2 : Nat) (x0 : Int) (x1 : Int) (x2 : Int) (r3 : List (List D)) (x4 : Int) (r5 : List (List D)) (x6 : Int) (x7 : Int) (r8 : List (List D)) :
  Option Out := loopK Γ shp n0 [2, 3, 4, 6, 41, 42] lb75_0 (St.mk [(2, V.one (X.ptr 0 0)), (3, V.one (X.ptr 1 0)), (4, V.one (X.ptr 2 0)), (6, V.one (X.ptr 3 0)), (41, V.one (X.d (D.int
  IntKind.i64 x0))), (42, V.one (X.d (D.int IntKind.i64 x1)))] [(0, Blk.mk [Lf.int IntKind.i64, Lf.lst 2] [X.d (D.int IntKind.i64 x2), X.d (D.list 2 r3)]), (1, Blk.mk [Lf.int IntKind.i64,
  Lf.lst 2] [X.d (D.int IntKind.i64 x4), X.d (D.list 2 r5)]), (2, Blk.mk [Lf.int IntKind.i64, Lf.lst 2] [X.d (D.int IntKind.i64 x6), X.nilL 2]), (3, Blk.mk [Lf.int IntKind.i64, Lf.lst 2] [X.d
  (D.int IntKind.i64 x7), X.own 0 24 2 r8])] [0] 4 1 0) (kBlk 1 (kSeq (some [4, 6]) (fun s K => Jn Γ shp n2 j75_4 s K) (finK (Sh.owns (shp 75)) (SFunc.results sf75) 0)))
noncomputable def q75_1_v3 (Γ : SemL) (n1 : Nat) (n2 : Nat) (x0 : Int) (x1 : Int) (x2 : Int) (r3 : List (List D)) (x4 : Int) (r5 : List (List D)) (x6 : Int) (x7 : Int) (r8 : List (List D)) :
  Option Out := Jn Γ shp n1 j75_1 (St.mk [(2, V.one (X.ptr 0 0)), (3, V.one (X.ptr 1 0)), (4, V.one (X.ptr 2 0)), (6, V.one (X.ptr 3 0)), (41, V.one (X.d (D.int IntKind.i64 x0))), (42, V.one
  (X.d (D.int IntKind.i64 x1)))] [(0, Blk.mk [Lf.int IntKind.i64, Lf.lst 2] [X.d (D.int IntKind.i64 x2), X.d (D.list 2 r3)]), (1, Blk.mk [Lf.int IntKind.i64, Lf.lst 2] [X.d (D.int IntKind.i64
  x4), X.d (D.list 2 r5)]), (2, Blk.mk [Lf.int IntKind.i64, Lf.lst 2] [X.d (D.int IntKind.i64 x6), X.nilL 2]), (3, Blk.mk [Lf.int IntKind.i64, Lf.lst 2] [X.d (D.int IntKind.i64 x7), X.own 0
  24 2 r8])] [0] 4 1 0) (kLoop (loopK Γ shp n1) [2, 3, 4, 6, 41, 42] lb75_0 (kBlk 1 (kSeq (some [4, 6]) (fun s K => Jn Γ shp n2 j75_4 s K) (finK (Sh.owns (shp 75)) (SFunc.results sf75) 0))))
noncomputable def q75_2_v3 (Γ : SemL) (n1 : Nat) (n2 : Nat) (x0 : Int) (x1 : Int) (x2 : Int) (r3 : List (List D)) (x4 : Int) (r5 : List (List D)) (x6 : Int) (x7 : Int) (r8 : List (List D))
  (x9 : Int) (r10 : List (List D)) : Option Out := Jn Γ shp n1 j75_2 (St.mk [(2, V.one (X.ptr 0 0)), (3, V.one (X.ptr 1 0)), (4, V.one (X.ptr 2 0)), (6, V.one (X.ptr 3 0)), (8, V.one (X.ptr 4
  0)), (41, V.one (X.d (D.int IntKind.i64 x0))), (42, V.one (X.d (D.int IntKind.i64 x1)))] [(0, Blk.mk [Lf.int IntKind.i64, Lf.lst 2] [X.d (D.int IntKind.i64 x2), X.d (D.list 2 r3)]), (1,
  Blk.mk [Lf.int IntKind.i64, Lf.lst 2] [X.d (D.int IntKind.i64 x4), X.d (D.list 2 r5)]), (2, Blk.mk [Lf.int IntKind.i64, Lf.lst 2] [X.d (D.int IntKind.i64 x6), X.nilL 2]), (3, Blk.mk [Lf.int
  IntKind.i64, Lf.lst 2] [X.d (D.int IntKind.i64 x7), X.own 0 24 2 r8]), (4, Blk.mk [Lf.int IntKind.i64, Lf.lst 2] [X.d (D.int IntKind.i64 x9), X.d (D.list 2 r10)])] [0] 5 1 0) (kBlk 2 (kSeq
  (some [2, 3, 4, 6, 41, 42]) (fun s K => Jn Γ shp n1 j75_3 s K) (kLoop (loopK Γ shp n1) [2, 3, 4, 6, 41, 42] lb75_0 (kBlk 1 (kSeq (some [4, 6]) (fun s K => Jn Γ shp n2 j75_4 s K) (finK
  (Sh.owns (shp 75)) (SFunc.results sf75) 0))))))
theorem e26_eq (Γ : SemL) (n1 : Nat) (x0 : Int) (x1 : Int) (r2 : List (List D)) : e26 Γ n1 x0 x1 r2 = r_t2a2IL2oB (Γ 53 [V.agg [X.d (D.int IntKind.i64 x0), X.d (D.int IntKind.i64 x1), X.d
  (D.list 3 r2)], V.one (X.d (D.int IntKind.i64 40))] []) [] fun i5_ w6_ c7_ => bif c7_ then r_a2IL2 (Γ 54 [V.agg [X.d (D.int IntKind.i64 i5_), X.d (D.list 2 w6_)]] []) [] fun i3_ w4_ => r_oB
  (Γ 16 [V.agg [X.d (D.int IntKind.i64 i3_), X.d (D.list 2 w4_)]] []) [] fun c2_ => bif c2_ then r_oI (Γ 28 [V.agg [X.d (D.int IntKind.i64 x0), X.d (D.int IntKind.i64 x1), X.d (D.list 3 r2)]]
  []) [] fun i1_ => some (Out.mk true (V.one (X.d (D.bool (decide (i1_ ≤ 1000))))) D.junk [] 0) else some (Out.mk true (V.one (X.d (D.bool false))) D.junk [] 0) else some (Out.mk true (V.one
  (X.d (D.bool false))) D.junk [] 0) := (run_step ..).trans (by kernel_rfl)
theorem e53_eq (Γ : SemL) (n1 : Nat) (x0 : Int) (x1 : Int) (r2 : List (List D)) (x3 : Int) : e53 Γ n1 x0 x1 r2 x3 = bif decide (x3 < 1) then some (Out.mk true (V.tup [V.agg [X.d (D.int
  IntKind.i64 x0), X.d (D.list 2 [])], V.one (X.d (D.bool false))]) D.junk [] 0) else bif x0 == 1 then r_oB (Γ 51 [V.agg [X.d (D.int IntKind.i64 x0), X.nilL 2], V.agg [X.d (D.int IntKind.i64
  x0), X.d (D.int IntKind.i64 x1), X.d (D.list 3 r2)]] []) [] fun c1_ => some (Out.mk true (V.tup [V.agg [X.d (D.int IntKind.i64 x0), X.d (D.list 2 [])], V.one (X.d (D.bool c1_))]) D.junk []
  0) else bif x0 == 2 then r_oB (Γ 51 [V.agg [X.d (D.int IntKind.i64 x0), X.nilL 2], V.agg [X.d (D.int IntKind.i64 x0), X.d (D.int IntKind.i64 x1), X.d (D.list 3 r2)]] []) [] fun c2_ => some
  (Out.mk true (V.tup [V.agg [X.d (D.int IntKind.i64 x0), X.d (D.list 2 [])], V.one (X.d (D.bool c2_))]) D.junk [] 0) else bif x0 == 3 then bif x1 == 0 then bif decide (Int.ofNat (List.length
  r2) ≥ 2) then bif decide (Int.ofNat (List.length r2) ≤ 4) then l53_0 n1 Γ n1 x3 r2 (Int.ofNat (List.length r2)) 0 0 x0 else bif x0 == 4 then bif x1 == 0 then bif decide (Int.ofNat
  (List.length r2) ≤ 32) then l53_1 n1 Γ n1 x3 r2 (Int.ofNat (List.length r2)) 0 0 x0 0 else q53_8 Γ n1 0 x0 else q53_8 Γ n1 0 x0 else q53_8 Γ n1 0 x0 else bif x0 == 4 then bif x1 == 0 then
  bif decide (Int.ofNat (List.length r2) ≤ 32) then l53_1 n1 Γ n1 x3 r2 (Int.ofNat (List.length r2)) 0 0 x0 0 else q53_8 Γ n1 0 x0 else q53_8 Γ n1 0 x0 else q53_8 Γ n1 0 x0 else bif x0 == 4
  then bif x1 == 0 then bif decide (Int.ofNat (List.length r2) ≤ 32) then l53_1 n1 Γ n1 x3 r2 (Int.ofNat (List.length r2)) 0 0 x0 0 else q53_8 Γ n1 0 x0 else q53_8 Γ n1 0 x0 else q53_8 Γ n1 0
  x0 else bif x0 == 4 then bif x1 == 0 then bif decide (Int.ofNat (List.length r2) ≤ 32) then l53_1 n1 Γ n1 x3 r2 (Int.ofNat (List.length r2)) 0 0 x0 0 else q53_8 Γ n1 0 x0 else q53_8 Γ n1 0
  x0 else q53_8 Γ n1 0 x0 := (run_step ..).trans (by kernel_rfl)
theorem e54_eq (Γ : SemL) (n1 : Nat) (x0 : Int) (r1 : List (List D)) : e54 Γ n1 x0 r1 = bif x0 == 0 then some (Out.mk true (V.agg [X.d (D.int IntKind.i64 1), X.d (D.list 2 [])]) D.junk [] 0)
  else q54_0 Γ n1 x0 r1 0 := (run_step ..).trans (by kernel_rfl)
theorem l53_0_eq (n0 : Nat) (Γ : SemL) (n2 : Nat) (x0 : Int) (r1 : List (List D)) (x2 : Int) (x3 : Int) (x4 : Int) (x5 : Int) : l53_0 (n0 + 1) Γ n2 x0 r1 x2 x3 x4 x5 = bif decide (x3 < x2)
  then q53_0 Γ n0 n2 x0 r1 x2 x3 x4 x5 else q53_3 Γ n2 x4 x5 := (loop_step ..).trans (by kernel_rfl)
theorem l53_1_eq (n0 : Nat) (Γ : SemL) (n2 : Nat) (x0 : Int) (r1 : List (List D)) (x2 : Int) (x3 : Int) (x4 : Int) (x5 : Int) (x6 : Int) : l53_1 (n0 + 1) Γ n2 x0 r1 x2 x3 x4 x5 x6 = bif
  decide (x3 < x2) then q53_4 Γ n0 n2 x0 r1 x2 x3 x4 x5 x6 else q53_7 Γ n2 x4 x5 x6 := (loop_step ..).trans (by kernel_rfl)
theorem q53_8_eq (Γ : SemL) (n1 : Nat) (x0 : Int) (x1 : Int) : q53_8 Γ n1 x0 x1 = some (Out.mk true (V.tup [V.agg [X.d (D.int IntKind.i64 x1), X.d (D.list 2 [])], V.one (X.d (D.bool false))])
  D.junk [] 0) := (Jn_step ..).trans (by kernel_rfl)
theorem q54_0_eq (Γ : SemL) (n1 : Nat) (x0 : Int) (r1 : List (List D)) (x2 : Int) : q54_0 Γ n1 x0 r1 x2 = l54_0 n1 Γ n1 r1 (Int.ofNat (List.length r1)) 0 x2 x0 := (Jn_step ..).trans (by
  kernel_rfl)
theorem q53_0_eq (Γ : SemL) (n1 : Nat) (n2 : Nat) (x0 : Int) (r1 : List (List D)) (x2 : Int) (x3 : Int) (x4 : Int) (x5 : Int) : q53_0 Γ n1 n2 x0 r1 x2 x3 x4 x5 = bif decide (0 ≤ x3) && decide
  (x3 < Int.ofNat (List.length r1)) then r_t2a2IL2oB (Γ 53 [V.agg [X.d (List.getD (List.getD r1 (Int.toNat x3) []) 0 D.junk), X.d (List.getD (List.getD r1 (Int.toNat x3) []) 1 D.junk), X.d
  (List.getD (List.getD r1 (Int.toNat x3) []) 2 D.junk)], V.one (X.d (D.int IntKind.i64 (IntKind.wrap IntKind.i64 (x0 - 1))))] []) [] fun i1_ w2_ c3_ => bif !c3_ then some (Out.mk true (V.tup
  [V.agg [X.d (D.int IntKind.i64 x5), X.d (D.list 2 [])], V.one (X.d (D.bool false))]) D.junk [] 0) else q53_1 Γ n1 n2 x0 r1 x2 x3 x4 x5 i1_ w2_ else none := (Jn_step ..).trans (by
  kernel_rfl)
theorem q53_3_eq (Γ : SemL) (n1 : Nat) (x0 : Int) (x1 : Int) : q53_3 Γ n1 x0 x1 = some (Out.mk true (V.tup [V.agg [X.d (D.int IntKind.i64 x1), X.d (D.list 2 [])], V.one (X.d (D.bool true))])
  D.junk [] 0) := (Jn_step ..).trans (by kernel_rfl)
theorem q53_4_eq (Γ : SemL) (n1 : Nat) (n2 : Nat) (x0 : Int) (r1 : List (List D)) (x2 : Int) (x3 : Int) (x4 : Int) (x5 : Int) (x6 : Int) : q53_4 Γ n1 n2 x0 r1 x2 x3 x4 x5 x6 = bif decide (0 ≤
  x3) && decide (x3 < Int.ofNat (List.length r1)) then r_t2a2IL2oB (Γ 53 [V.agg [X.d (List.getD (List.getD r1 (Int.toNat x3) []) 0 D.junk), X.d (List.getD (List.getD r1 (Int.toNat x3) []) 1
  D.junk), X.d (List.getD (List.getD r1 (Int.toNat x3) []) 2 D.junk)], V.one (X.d (D.int IntKind.i64 (IntKind.wrap IntKind.i64 (x0 - 1))))] []) [] fun i4_ w5_ c6_ => bif c6_ then r_t2a2IL2oB
  (Γ 75 [V.agg [X.d (D.int IntKind.i64 x6), X.nilL 2], V.agg [X.d (D.int IntKind.i64 i4_), X.d (D.list 2 w5_)]] []) [] fun i1_ w2_ c3_ => q53_5 Γ n1 n2 x0 c3_ r1 x2 x3 x4 x5 i1_ w2_ else
  q53_5_v1 Γ n1 n2 x0 c6_ r1 x2 x3 x4 x5 x6 else none := (Jn_step ..).trans (by kernel_rfl)
theorem q53_7_eq (Γ : SemL) (n1 : Nat) (x0 : Int) (x1 : Int) (x2 : Int) : q53_7 Γ n1 x0 x1 x2 = some (Out.mk true (V.tup [V.agg [X.d (D.int IntKind.i64 x1), X.d (D.list 2 [[D.int IntKind.i64
  x2, D.list 2 []]])], V.one (X.d (D.bool true))]) D.junk [] 0) := (Jn_step ..).trans (by kernel_rfl)
theorem l54_0_eq (n0 : Nat) (Γ : SemL) (n2 : Nat) (r0 : List (List D)) (x1 : Int) (x2 : Int) (x3 : Int) (x4 : Int) : l54_0 (n0 + 1) Γ n2 r0 x1 x2 x3 x4 = bif decide (x2 < x1) then q54_1 Γ n0
  n2 r0 x1 x2 x3 x4 else q54_3 Γ n2 x3 x4 := (loop_step ..).trans (by kernel_rfl)
theorem q53_1_eq (Γ : SemL) (n1 : Nat) (n2 : Nat) (x0 : Int) (r1 : List (List D)) (x2 : Int) (x3 : Int) (x4 : Int) (x5 : Int) (x6 : Int) (r7 : List (List D)) : q53_1 Γ n1 n2 x0 r1 x2 x3 x4 x5
  x6 r7 = q53_2 Γ n1 n2 x0 r1 x2 x3 x4 x5 [[D.int IntKind.i64 x6, D.list 2 r7]] := (Jn_step ..).trans (by kernel_rfl)
theorem e75_eq (Γ : SemL) (n1 : Nat) (x0 : Int) (x1 : Int) (r2 : List (List D)) : e75 Γ n1 x0 x1 r2 = bif x0 == 0 then some (Out.mk true (V.tup [V.agg [X.d (D.int IntKind.i64 x1), X.d (D.list
  2 r2)], V.one (X.d (D.bool true))]) D.junk [] 0) else bif x1 == 0 then some (Out.mk true (V.tup [V.agg [X.d (D.int IntKind.i64 x0), X.d (D.list 2 [])], V.one (X.d (D.bool true))]) D.junk []
  0) else bif x0 != x1 then some (Out.mk true (V.tup [V.agg [X.d (D.int IntKind.i64 x0), X.d (D.list 2 [])], V.one (X.d (D.bool false))]) D.junk [] 0) else bif Int.ofNat 0 != Int.ofNat
  (List.length r2) then some (Out.mk true (V.tup [V.agg [X.d (D.int IntKind.i64 x0), X.d (D.list 2 [])], V.one (X.d (D.bool false))]) D.junk [] 0) else q75_0 Γ n1 x0 x1 r2 0 := (run_step
  ..).trans (by kernel_rfl)
theorem q53_5_eq (Γ : SemL) (n1 : Nat) (n2 : Nat) (x0 : Int) (b1 : Bool) (r2 : List (List D)) (x3 : Int) (x4 : Int) (x5 : Int) (x6 : Int) (x7 : Int) (r8 : List (List D)) : q53_5 Γ n1 n2 x0 b1
  r2 x3 x4 x5 x6 x7 r8 = bif !b1 then some (Out.mk true (V.tup [V.agg [X.d (D.int IntKind.i64 x6), X.d (D.list 2 [])], V.one (X.d (D.bool false))]) D.junk [] 0) else q53_6 Γ n1 n2 x0 r2 x3 x4
  x5 x6 x7 r8 := (Jn_step ..).trans (by kernel_rfl)
theorem q53_5_v1_eq (Γ : SemL) (n1 : Nat) (n2 : Nat) (x0 : Int) (b1 : Bool) (r2 : List (List D)) (x3 : Int) (x4 : Int) (x5 : Int) (x6 : Int) (x7 : Int) : q53_5_v1 Γ n1 n2 x0 b1 r2 x3 x4 x5 x6
  x7 = bif !b1 then some (Out.mk true (V.tup [V.agg [X.d (D.int IntKind.i64 x6), X.d (D.list 2 [])], V.one (X.d (D.bool false))]) D.junk [] 0) else q53_6_v1 Γ n1 n2 x0 r2 x3 x4 x5 x6 x7 :=
  (Jn_step ..).trans (by kernel_rfl)
theorem q54_1_eq (Γ : SemL) (n1 : Nat) (n2 : Nat) (r0 : List (List D)) (x1 : Int) (x2 : Int) (x3 : Int) (x4 : Int) : q54_1 Γ n1 n2 r0 x1 x2 x3 x4 = bif decide (0 ≤ x2) && decide (x2 <
  Int.ofNat (List.length r0)) then r_a2IL2 (Γ 54 [V.agg [X.d (List.getD (List.getD r0 (Int.toNat x2) []) 0 D.junk), X.d (List.getD (List.getD r0 (Int.toNat x2) []) 1 D.junk)]] []) [] fun i1_
  w2_ => q54_2 Γ n1 n2 r0 x1 x2 x3 x4 [[D.int IntKind.i64 i1_, D.list 2 w2_]] else none := (Jn_step ..).trans (by kernel_rfl)
theorem q54_3_eq (Γ : SemL) (n1 : Nat) (x0 : Int) (x1 : Int) : q54_3 Γ n1 x0 x1 = some (Out.mk true (V.agg [X.d (D.int IntKind.i64 x1), X.d (D.list 2 [])]) D.junk [] 0) := (Jn_step ..).trans
  (by kernel_rfl)
theorem q53_2_eq (Γ : SemL) (n1 : Nat) (n2 : Nat) (x0 : Int) (r1 : List (List D)) (x2 : Int) (x3 : Int) (x4 : Int) (x5 : Int) (r6 : List (List D)) : q53_2 Γ n1 n2 x0 r1 x2 x3 x4 x5 r6 =
  l53_0_v1 n1 Γ n2 x0 r1 x2 (IntKind.wrap IntKind.i64 (x3 + 1)) x4 x5 r6 := (Jn_step ..).trans (by kernel_rfl)
theorem q75_0_eq (Γ : SemL) (n1 : Nat) (x0 : Int) (x1 : Int) (r2 : List (List D)) (x3 : Int) : q75_0 Γ n1 x0 x1 r2 x3 = l75_0 n1 Γ n1 (Int.ofNat 0) 0 x0 x1 r2 x3 x0 := (Jn_step ..).trans (by
  kernel_rfl)
theorem q53_6_eq (Γ : SemL) (n1 : Nat) (n2 : Nat) (x0 : Int) (r1 : List (List D)) (x2 : Int) (x3 : Int) (x4 : Int) (x5 : Int) (x6 : Int) (r7 : List (List D)) : q53_6 Γ n1 n2 x0 r1 x2 x3 x4 x5
  x6 r7 = l53_1_v1 n1 Γ n2 x0 r1 x2 (IntKind.wrap IntKind.i64 (x3 + 1)) x4 x5 x6 r7 := (Jn_step ..).trans (by kernel_rfl)
theorem q53_6_v1_eq (Γ : SemL) (n1 : Nat) (n2 : Nat) (x0 : Int) (r1 : List (List D)) (x2 : Int) (x3 : Int) (x4 : Int) (x5 : Int) (x6 : Int) : q53_6_v1 Γ n1 n2 x0 r1 x2 x3 x4 x5 x6 = l53_1 n1
  Γ n2 x0 r1 x2 (IntKind.wrap IntKind.i64 (x3 + 1)) x4 x5 x6 := (Jn_step ..).trans (by kernel_rfl)
theorem q54_2_eq (Γ : SemL) (n1 : Nat) (n2 : Nat) (r0 : List (List D)) (x1 : Int) (x2 : Int) (x3 : Int) (x4 : Int) (r5 : List (List D)) : q54_2 Γ n1 n2 r0 x1 x2 x3 x4 r5 = l54_0_v1 n1 Γ n2 r0
  x1 (IntKind.wrap IntKind.i64 (x2 + 1)) x3 x4 r5 := (Jn_step ..).trans (by kernel_rfl)
theorem l53_0_v1_eq (n0 : Nat) (Γ : SemL) (n2 : Nat) (x0 : Int) (r1 : List (List D)) (x2 : Int) (x3 : Int) (x4 : Int) (x5 : Int) (r6 : List (List D)) : l53_0_v1 (n0 + 1) Γ n2 x0 r1 x2 x3 x4
  x5 r6 = bif decide (x3 < x2) then q53_0_v1 Γ n0 n2 x0 r1 x2 x3 x4 x5 r6 else q53_3_v1 Γ n2 x4 x5 r6 := (loop_step ..).trans (by kernel_rfl)
theorem l75_0_eq (n0 : Nat) (Γ : SemL) (n2 : Nat) (x0 : Int) (x1 : Int) (x2 : Int) (x3 : Int) (r4 : List (List D)) (x5 : Int) (x6 : Int) : l75_0 (n0 + 1) Γ n2 x0 x1 x2 x3 r4 x5 x6 = bif
  decide (x1 < x0) then q75_1 Γ n0 n2 x0 x1 x2 x3 r4 x5 x6 else q75_4 Γ n2 x5 x6 := (loop_step ..).trans (by kernel_rfl)
theorem l53_1_v1_eq (n0 : Nat) (Γ : SemL) (n2 : Nat) (x0 : Int) (r1 : List (List D)) (x2 : Int) (x3 : Int) (x4 : Int) (x5 : Int) (x6 : Int) (r7 : List (List D)) : l53_1_v1 (n0 + 1) Γ n2 x0 r1
  x2 x3 x4 x5 x6 r7 = bif decide (x3 < x2) then q53_4_v1 Γ n0 n2 x0 r1 x2 x3 x4 x5 x6 r7 else q53_7_v1 Γ n2 x4 x5 x6 r7 := (loop_step ..).trans (by kernel_rfl)
theorem l54_0_v1_eq (n0 : Nat) (Γ : SemL) (n2 : Nat) (r0 : List (List D)) (x1 : Int) (x2 : Int) (x3 : Int) (x4 : Int) (r5 : List (List D)) : l54_0_v1 (n0 + 1) Γ n2 r0 x1 x2 x3 x4 r5 = bif
  decide (x2 < x1) then q54_1_v1 Γ n0 n2 r0 x1 x2 x3 x4 r5 else q54_3_v1 Γ n2 x3 x4 r5 := (loop_step ..).trans (by kernel_rfl)
theorem q53_0_v1_eq (Γ : SemL) (n1 : Nat) (n2 : Nat) (x0 : Int) (r1 : List (List D)) (x2 : Int) (x3 : Int) (x4 : Int) (x5 : Int) (r6 : List (List D)) : q53_0_v1 Γ n1 n2 x0 r1 x2 x3 x4 x5 r6 =
  bif decide (0 ≤ x3) && decide (x3 < Int.ofNat (List.length r1)) then r_t2a2IL2oB (Γ 53 [V.agg [X.d (List.getD (List.getD r1 (Int.toNat x3) []) 0 D.junk), X.d (List.getD (List.getD r1
  (Int.toNat x3) []) 1 D.junk), X.d (List.getD (List.getD r1 (Int.toNat x3) []) 2 D.junk)], V.one (X.d (D.int IntKind.i64 (IntKind.wrap IntKind.i64 (x0 - 1))))] []) [] fun i1_ w2_ c3_ => bif
  !c3_ then some (Out.mk true (V.tup [V.agg [X.d (D.int IntKind.i64 x5), X.d (D.list 2 r6)], V.one (X.d (D.bool false))]) D.junk [] 0) else q53_1_v1 Γ n1 n2 x0 r1 x2 x3 x4 x5 r6 i1_ w2_ else
  none := (Jn_step ..).trans (by kernel_rfl)
theorem q53_3_v1_eq (Γ : SemL) (n1 : Nat) (x0 : Int) (x1 : Int) (r2 : List (List D)) : q53_3_v1 Γ n1 x0 x1 r2 = some (Out.mk true (V.tup [V.agg [X.d (D.int IntKind.i64 x1), X.d (D.list 2
  r2)], V.one (X.d (D.bool true))]) D.junk [] 0) := (Jn_step ..).trans (by kernel_rfl)
theorem q75_1_eq (Γ : SemL) (n1 : Nat) (n2 : Nat) (x0 : Int) (x1 : Int) (x2 : Int) (x3 : Int) (r4 : List (List D)) (x5 : Int) (x6 : Int) : q75_1 Γ n1 n2 x0 x1 x2 x3 r4 x5 x6 = bif decide (0 ≤
  x1) && decide (x1 < Int.ofNat 0) then bif decide (0 ≤ x1) && decide (x1 < Int.ofNat (List.length r4)) then r_t2a2IL2oB (Γ 75 [V.agg [X.d D.junk, X.d D.junk], V.agg [X.d (List.getD
  (List.getD r4 (Int.toNat x1) []) 0 D.junk), X.d (List.getD (List.getD r4 (Int.toNat x1) []) 1 D.junk)]] []) [] fun i1_ w2_ c3_ => bif !c3_ then some (Out.mk true (V.tup [V.agg [X.d (D.int
  IntKind.i64 x2), X.d (D.list 2 [])], V.one (X.d (D.bool false))]) D.junk [] 0) else q75_2 Γ n1 n2 x0 x1 x2 x3 r4 x5 x6 i1_ w2_ else none else none := (Jn_step ..).trans (by kernel_rfl)
theorem q75_4_eq (Γ : SemL) (n1 : Nat) (x0 : Int) (x1 : Int) : q75_4 Γ n1 x0 x1 = some (Out.mk true (V.tup [V.agg [X.d (D.int IntKind.i64 x1), X.d (D.list 2 [])], V.one (X.d (D.bool true))])
  D.junk [] 0) := (Jn_step ..).trans (by kernel_rfl)
theorem q53_4_v1_eq (Γ : SemL) (n1 : Nat) (n2 : Nat) (x0 : Int) (r1 : List (List D)) (x2 : Int) (x3 : Int) (x4 : Int) (x5 : Int) (x6 : Int) (r7 : List (List D)) : q53_4_v1 Γ n1 n2 x0 r1 x2 x3
  x4 x5 x6 r7 = bif decide (0 ≤ x3) && decide (x3 < Int.ofNat (List.length r1)) then r_t2a2IL2oB (Γ 53 [V.agg [X.d (List.getD (List.getD r1 (Int.toNat x3) []) 0 D.junk), X.d (List.getD
  (List.getD r1 (Int.toNat x3) []) 1 D.junk), X.d (List.getD (List.getD r1 (Int.toNat x3) []) 2 D.junk)], V.one (X.d (D.int IntKind.i64 (IntKind.wrap IntKind.i64 (x0 - 1))))] []) [] fun i4_
  w5_ c6_ => bif c6_ then r_t2a2IL2oB (Γ 75 [V.agg [X.d (D.int IntKind.i64 x6), X.d (D.list 2 r7)], V.agg [X.d (D.int IntKind.i64 i4_), X.d (D.list 2 w5_)]] []) [] fun i1_ w2_ c3_ => q53_5 Γ
  n1 n2 x0 c3_ r1 x2 x3 x4 x5 i1_ w2_ else q53_5 Γ n1 n2 x0 c6_ r1 x2 x3 x4 x5 x6 r7 else none := (Jn_step ..).trans (by kernel_rfl)
theorem q53_7_v1_eq (Γ : SemL) (n1 : Nat) (x0 : Int) (x1 : Int) (x2 : Int) (r3 : List (List D)) : q53_7_v1 Γ n1 x0 x1 x2 r3 = some (Out.mk true (V.tup [V.agg [X.d (D.int IntKind.i64 x1), X.d
  (D.list 2 [[D.int IntKind.i64 x2, D.list 2 r3]])], V.one (X.d (D.bool true))]) D.junk [] 0) := (Jn_step ..).trans (by kernel_rfl)
theorem q54_1_v1_eq (Γ : SemL) (n1 : Nat) (n2 : Nat) (r0 : List (List D)) (x1 : Int) (x2 : Int) (x3 : Int) (x4 : Int) (r5 : List (List D)) : q54_1_v1 Γ n1 n2 r0 x1 x2 x3 x4 r5 = bif decide (0
  ≤ x2) && decide (x2 < Int.ofNat (List.length r0)) then r_a2IL2 (Γ 54 [V.agg [X.d (List.getD (List.getD r0 (Int.toNat x2) []) 0 D.junk), X.d (List.getD (List.getD r0 (Int.toNat x2) []) 1
  D.junk)]] []) [] fun i1_ w2_ => bif true && true && true && Nat.ble ((List.length r5 + List.length [[D.int IntKind.i64 i1_, D.list 2 w2_]]) * 33) 140737488355328 then q54_2 Γ n1 n2 r0 x1 x2
  x3 x4 (r5 ++ [[D.int IntKind.i64 i1_, D.list 2 w2_]]) else none else none := (Jn_step ..).trans (by kernel_rfl)
theorem q54_3_v1_eq (Γ : SemL) (n1 : Nat) (x0 : Int) (x1 : Int) (r2 : List (List D)) : q54_3_v1 Γ n1 x0 x1 r2 = some (Out.mk true (V.agg [X.d (D.int IntKind.i64 x1), X.d (D.list 2 r2)])
  D.junk [] 0) := (Jn_step ..).trans (by kernel_rfl)
theorem q53_1_v1_eq (Γ : SemL) (n1 : Nat) (n2 : Nat) (x0 : Int) (r1 : List (List D)) (x2 : Int) (x3 : Int) (x4 : Int) (x5 : Int) (r6 : List (List D)) (x7 : Int) (r8 : List (List D)) :
  q53_1_v1 Γ n1 n2 x0 r1 x2 x3 x4 x5 r6 x7 r8 = bif true && true && true && Nat.ble ((List.length r6 + List.length [[D.int IntKind.i64 x7, D.list 2 r8]]) * 33) 140737488355328 then q53_2 Γ n1
  n2 x0 r1 x2 x3 x4 x5 (r6 ++ [[D.int IntKind.i64 x7, D.list 2 r8]]) else none := (Jn_step ..).trans (by kernel_rfl)
theorem e75_v1_eq (Γ : SemL) (n1 : Nat) (x0 : Int) (r1 : List (List D)) : e75_v1 Γ n1 x0 r1 = none := (run_step ..).trans (by kernel_rfl)
theorem q75_2_eq (Γ : SemL) (n1 : Nat) (n2 : Nat) (x0 : Int) (x1 : Int) (x2 : Int) (x3 : Int) (r4 : List (List D)) (x5 : Int) (x6 : Int) (x7 : Int) (r8 : List (List D)) : q75_2 Γ n1 n2 x0 x1
  x2 x3 r4 x5 x6 x7 r8 = q75_3 Γ n1 n2 x0 x1 x2 x3 r4 x5 x6 [[D.int IntKind.i64 x7, D.list 2 r8]] := (Jn_step ..).trans (by kernel_rfl)
theorem e75_v2_eq (Γ : SemL) (n1 : Nat) (x0 : Int) (r1 : List (List D)) (x2 : Int) (r3 : List (List D)) : e75_v2 Γ n1 x0 r1 x2 r3 = bif x0 == 0 then some (Out.mk true (V.tup [V.agg [X.d
  (D.int IntKind.i64 x2), X.d (D.list 2 r3)], V.one (X.d (D.bool true))]) D.junk [] 0) else bif x2 == 0 then some (Out.mk true (V.tup [V.agg [X.d (D.int IntKind.i64 x0), X.d (D.list 2 r1)],
  V.one (X.d (D.bool true))]) D.junk [] 0) else bif x0 != x2 then some (Out.mk true (V.tup [V.agg [X.d (D.int IntKind.i64 x0), X.d (D.list 2 r1)], V.one (X.d (D.bool false))]) D.junk [] 0)
  else bif Int.ofNat (List.length r1) != Int.ofNat (List.length r3) then some (Out.mk true (V.tup [V.agg [X.d (D.int IntKind.i64 x0), X.d (D.list 2 r1)], V.one (X.d (D.bool false))]) D.junk
  [] 0) else q75_0_v1 Γ n1 x0 r1 x2 r3 0 := (run_step ..).trans (by kernel_rfl)
theorem q75_3_eq (Γ : SemL) (n1 : Nat) (n2 : Nat) (x0 : Int) (x1 : Int) (x2 : Int) (x3 : Int) (r4 : List (List D)) (x5 : Int) (x6 : Int) (r7 : List (List D)) : q75_3 Γ n1 n2 x0 x1 x2 x3 r4 x5
  x6 r7 = l75_0_v1 n1 Γ n2 x0 (IntKind.wrap IntKind.i64 (x1 + 1)) x2 x3 r4 x5 x6 r7 := (Jn_step ..).trans (by kernel_rfl)
theorem q75_0_v1_eq (Γ : SemL) (n1 : Nat) (x0 : Int) (r1 : List (List D)) (x2 : Int) (r3 : List (List D)) (x4 : Int) : q75_0_v1 Γ n1 x0 r1 x2 r3 x4 = l75_0_v2 n1 Γ n1 (Int.ofNat (List.length
  r1)) 0 x0 r1 x2 r3 x4 x0 := (Jn_step ..).trans (by kernel_rfl)
theorem l75_0_v1_eq (n0 : Nat) (Γ : SemL) (n2 : Nat) (x0 : Int) (x1 : Int) (x2 : Int) (x3 : Int) (r4 : List (List D)) (x5 : Int) (x6 : Int) (r7 : List (List D)) : l75_0_v1 (n0 + 1) Γ n2 x0 x1
  x2 x3 r4 x5 x6 r7 = bif decide (x1 < x0) then q75_1_v1 Γ n0 n2 x0 x1 x2 x3 r4 x5 x6 r7 else q75_4_v1 Γ n2 x5 x6 r7 := (loop_step ..).trans (by kernel_rfl)
theorem l75_0_v2_eq (n0 : Nat) (Γ : SemL) (n2 : Nat) (x0 : Int) (x1 : Int) (x2 : Int) (r3 : List (List D)) (x4 : Int) (r5 : List (List D)) (x6 : Int) (x7 : Int) : l75_0_v2 (n0 + 1) Γ n2 x0 x1
  x2 r3 x4 r5 x6 x7 = bif decide (x1 < x0) then q75_1_v2 Γ n0 n2 x0 x1 x2 r3 x4 r5 x6 x7 else q75_4 Γ n2 x6 x7 := (loop_step ..).trans (by kernel_rfl)
theorem q75_1_v1_eq (Γ : SemL) (n1 : Nat) (n2 : Nat) (x0 : Int) (x1 : Int) (x2 : Int) (x3 : Int) (r4 : List (List D)) (x5 : Int) (x6 : Int) (r7 : List (List D)) : q75_1_v1 Γ n1 n2 x0 x1 x2 x3
  r4 x5 x6 r7 = bif decide (0 ≤ x1) && decide (x1 < Int.ofNat 0) then bif decide (0 ≤ x1) && decide (x1 < Int.ofNat (List.length r4)) then r_t2a2IL2oB (Γ 75 [V.agg [X.d D.junk, X.d D.junk],
  V.agg [X.d (List.getD (List.getD r4 (Int.toNat x1) []) 0 D.junk), X.d (List.getD (List.getD r4 (Int.toNat x1) []) 1 D.junk)]] []) [] fun i1_ w2_ c3_ => bif !c3_ then some (Out.mk true
  (V.tup [V.agg [X.d (D.int IntKind.i64 x2), X.d (D.list 2 [])], V.one (X.d (D.bool false))]) D.junk [] 0) else q75_2_v1 Γ n1 n2 x0 x1 x2 x3 r4 x5 x6 r7 i1_ w2_ else none else none :=
  (Jn_step ..).trans (by kernel_rfl)
theorem q75_4_v1_eq (Γ : SemL) (n1 : Nat) (x0 : Int) (x1 : Int) (r2 : List (List D)) : q75_4_v1 Γ n1 x0 x1 r2 = some (Out.mk true (V.tup [V.agg [X.d (D.int IntKind.i64 x1), X.d (D.list 2
  r2)], V.one (X.d (D.bool true))]) D.junk [] 0) := (Jn_step ..).trans (by kernel_rfl)
theorem q75_1_v2_eq (Γ : SemL) (n1 : Nat) (n2 : Nat) (x0 : Int) (x1 : Int) (x2 : Int) (r3 : List (List D)) (x4 : Int) (r5 : List (List D)) (x6 : Int) (x7 : Int) : q75_1_v2 Γ n1 n2 x0 x1 x2 r3
  x4 r5 x6 x7 = bif decide (0 ≤ x1) && decide (x1 < Int.ofNat (List.length r3)) then bif decide (0 ≤ x1) && decide (x1 < Int.ofNat (List.length r5)) then r_t2a2IL2oB (Γ 75 [V.agg [X.d
  (List.getD (List.getD r3 (Int.toNat x1) []) 0 D.junk), X.d (List.getD (List.getD r3 (Int.toNat x1) []) 1 D.junk)], V.agg [X.d (List.getD (List.getD r5 (Int.toNat x1) []) 0 D.junk), X.d
  (List.getD (List.getD r5 (Int.toNat x1) []) 1 D.junk)]] []) [] fun i1_ w2_ c3_ => bif !c3_ then some (Out.mk true (V.tup [V.agg [X.d (D.int IntKind.i64 x2), X.d (D.list 2 r3)], V.one (X.d
  (D.bool false))]) D.junk [] 0) else q75_2_v2 Γ n1 n2 x0 x1 x2 r3 x4 r5 x6 x7 i1_ w2_ else none else none := (Jn_step ..).trans (by kernel_rfl)
theorem q75_2_v1_eq (Γ : SemL) (n1 : Nat) (n2 : Nat) (x0 : Int) (x1 : Int) (x2 : Int) (x3 : Int) (r4 : List (List D)) (x5 : Int) (x6 : Int) (r7 : List (List D)) (x8 : Int) (r9 : List (List
  D)) : q75_2_v1 Γ n1 n2 x0 x1 x2 x3 r4 x5 x6 r7 x8 r9 = bif true && true && true && Nat.ble ((List.length r7 + List.length [[D.int IntKind.i64 x8, D.list 2 r9]]) * 33) 140737488355328 then
  q75_3 Γ n1 n2 x0 x1 x2 x3 r4 x5 x6 (r7 ++ [[D.int IntKind.i64 x8, D.list 2 r9]]) else none := (Jn_step ..).trans (by kernel_rfl)
theorem q75_2_v2_eq (Γ : SemL) (n1 : Nat) (n2 : Nat) (x0 : Int) (x1 : Int) (x2 : Int) (r3 : List (List D)) (x4 : Int) (r5 : List (List D)) (x6 : Int) (x7 : Int) (x8 : Int) (r9 : List (List
  D)) : q75_2_v2 Γ n1 n2 x0 x1 x2 r3 x4 r5 x6 x7 x8 r9 = q75_3_v1 Γ n1 n2 x0 x1 x2 r3 x4 r5 x6 x7 [[D.int IntKind.i64 x8, D.list 2 r9]] := (Jn_step ..).trans (by kernel_rfl)
theorem q75_3_v1_eq (Γ : SemL) (n1 : Nat) (n2 : Nat) (x0 : Int) (x1 : Int) (x2 : Int) (r3 : List (List D)) (x4 : Int) (r5 : List (List D)) (x6 : Int) (x7 : Int) (r8 : List (List D)) :
  q75_3_v1 Γ n1 n2 x0 x1 x2 r3 x4 r5 x6 x7 r8 = l75_0_v3 n1 Γ n2 x0 (IntKind.wrap IntKind.i64 (x1 + 1)) x2 r3 x4 r5 x6 x7 r8 := (Jn_step ..).trans (by kernel_rfl)
theorem l75_0_v3_eq (n0 : Nat) (Γ : SemL) (n2 : Nat) (x0 : Int) (x1 : Int) (x2 : Int) (r3 : List (List D)) (x4 : Int) (r5 : List (List D)) (x6 : Int) (x7 : Int) (r8 : List (List D)) :
  l75_0_v3 (n0 + 1) Γ n2 x0 x1 x2 r3 x4 r5 x6 x7 r8 = bif decide (x1 < x0) then q75_1_v3 Γ n0 n2 x0 x1 x2 r3 x4 r5 x6 x7 r8 else q75_4_v1 Γ n2 x6 x7 r8 := (loop_step ..).trans (by kernel_rfl)
theorem q75_1_v3_eq (Γ : SemL) (n1 : Nat) (n2 : Nat) (x0 : Int) (x1 : Int) (x2 : Int) (r3 : List (List D)) (x4 : Int) (r5 : List (List D)) (x6 : Int) (x7 : Int) (r8 : List (List D)) :
  q75_1_v3 Γ n1 n2 x0 x1 x2 r3 x4 r5 x6 x7 r8 = bif decide (0 ≤ x1) && decide (x1 < Int.ofNat (List.length r3)) then bif decide (0 ≤ x1) && decide (x1 < Int.ofNat (List.length r5)) then
  r_t2a2IL2oB (Γ 75 [V.agg [X.d (List.getD (List.getD r3 (Int.toNat x1) []) 0 D.junk), X.d (List.getD (List.getD r3 (Int.toNat x1) []) 1 D.junk)], V.agg [X.d (List.getD (List.getD r5
  (Int.toNat x1) []) 0 D.junk), X.d (List.getD (List.getD r5 (Int.toNat x1) []) 1 D.junk)]] []) [] fun i1_ w2_ c3_ => bif !c3_ then some (Out.mk true (V.tup [V.agg [X.d (D.int IntKind.i64
  x2), X.d (D.list 2 r3)], V.one (X.d (D.bool false))]) D.junk [] 0) else q75_2_v3 Γ n1 n2 x0 x1 x2 r3 x4 r5 x6 x7 r8 i1_ w2_ else none else none := (Jn_step ..).trans (by kernel_rfl)
theorem q75_2_v3_eq (Γ : SemL) (n1 : Nat) (n2 : Nat) (x0 : Int) (x1 : Int) (x2 : Int) (r3 : List (List D)) (x4 : Int) (r5 : List (List D)) (x6 : Int) (x7 : Int) (r8 : List (List D)) (x9 :
  Int) (r10 : List (List D)) : q75_2_v3 Γ n1 n2 x0 x1 x2 r3 x4 r5 x6 x7 r8 x9 r10 = bif true && true && true && Nat.ble ((List.length r8 + List.length [[D.int IntKind.i64 x9, D.list 2 r10]])
  * 33) 140737488355328 then q75_3_v1 Γ n1 n2 x0 x1 x2 r3 x4 r5 x6 x7 (r8 ++ [[D.int IntKind.i64 x9, D.list 2 r10]]) else none := (Jn_step ..).trans (by kernel_rfl)
theorem call26 (k : Nat) (x0 : Int) (x1 : Int) (r2 : List (List D)) : Ak (k + 1) 26 [V.agg [X.d (D.int IntKind.i64 x0), X.d (D.int IntKind.i64 x1), X.d (D.list 3 r2)]] [] = e26 (Ak k) k x0 x1
  r2 := call_step (by kernel_rfl) rfl
theorem call53 (k : Nat) (x0 : Int) (x1 : Int) (r2 : List (List D)) (x3 : Int) : Ak (k + 1) 53 [V.agg [X.d (D.int IntKind.i64 x0), X.d (D.int IntKind.i64 x1), X.d (D.list 3 r2)], V.one (X.d
  (D.int IntKind.i64 x3))] [] = e53 (Ak k) k x0 x1 r2 x3 := call_step (by kernel_rfl) rfl
theorem call54 (k : Nat) (x0 : Int) (r1 : List (List D)) : Ak (k + 1) 54 [V.agg [X.d (D.int IntKind.i64 x0), X.d (D.list 2 r1)]] [] = e54 (Ak k) k x0 r1 := call_step (by kernel_rfl) rfl
theorem call75 (k : Nat) (x0 : Int) (x1 : Int) (r2 : List (List D)) : Ak (k + 1) 75 [V.agg [X.d (D.int IntKind.i64 x0), X.nilL 2], V.agg [X.d (D.int IntKind.i64 x1), X.d (D.list 2 r2)]] [] =
  e75 (Ak k) k x0 x1 r2 := call_step (by kernel_rfl) rfl
theorem call75_v1 (k : Nat) (x0 : Int) (r1 : List (List D)) : Ak (k + 1) 75 [V.agg [X.d D.junk, X.d D.junk], V.agg [X.d (D.int IntKind.i64 x0), X.d (D.list 2 r1)]] [] = e75_v1 (Ak k) k x0 r1
  := call_step (by kernel_rfl) rfl
theorem call75_v2 (k : Nat) (x0 : Int) (r1 : List (List D)) (x2 : Int) (r3 : List (List D)) : Ak (k + 1) 75 [V.agg [X.d (D.int IntKind.i64 x0), X.d (D.list 2 r1)], V.agg [X.d (D.int
  IntKind.i64 x2), X.d (D.list 2 r3)]] [] = e75_v2 (Ak k) k x0 r1 x2 r3 := call_step (by kernel_rfl) rfl
end Go.Proofs.YtkpdofiflhjahaaDoor.Ps
