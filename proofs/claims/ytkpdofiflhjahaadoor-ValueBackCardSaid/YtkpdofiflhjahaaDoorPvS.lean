/- What the pieces of the functions do, as functions of their data. Printed by pack3.py. -/
import Derived.Test.YtkpdofiflhjahaaDoorPv0
namespace Go.Proofs.YtkpdofiflhjahaaDoor.Ps
set_option maxHeartbeats 0
set_option maxRecDepth 100000
set_option linter.unusedVariables false
open Go Go.RowKit
noncomputable def e24 (Γ : SemL) (n1 : Nat) (x0 : Int) (r1 : List (List D)) (x2 : Int) (x3 : Int) (r4 : List (List D)) : Option Out := runF Γ shp (Sh.owns (shp 24)) sf24 n1 [V.agg [X.d (D.int
  IntKind.i64 x0), X.d (D.list 2 r1)], V.agg [X.d (D.int IntKind.i64 x2), X.d (D.int IntKind.i64 x3), X.d (D.list 3 r4)]] []
noncomputable def e25 (Γ : SemL) (n1 : Nat) (x0 : Int) (r1 : List (List D)) (x2 : Int) (x3 : Int) (r4 : List (List D)) : Option Out := runF Γ shp (Sh.owns (shp 25)) sf25 n1 [V.agg [X.d (D.int
  IntKind.i64 x0), X.d (D.list 2 r1)], V.agg [X.d (D.int IntKind.i64 x2), X.d (D.int IntKind.i64 x3), X.d (D.list 3 r4)]] []
noncomputable def e28 (Γ : SemL) (n1 : Nat) (x0 : Int) (x1 : Int) (r2 : List (List D)) : Option Out := runF Γ shp (Sh.owns (shp 28)) sf28 n1 [V.agg [X.d (D.int IntKind.i64 x0), X.d (D.int
  IntKind.i64 x1), X.d (D.list 3 r2)]] []
noncomputable def e29 (Γ : SemL) (n1 : Nat) (x0 : Int) (x1 : Int) (r2 : List (List D)) : Option Out := runF Γ shp (Sh.owns (shp 29)) sf29 n1 [V.agg [X.d (D.int IntKind.i64 x0), X.d (D.int
  IntKind.i64 x1), X.d (D.list 3 r2)]] []
noncomputable def e51 (Γ : SemL) (n1 : Nat) (x0 : Int) (r1 : List (List D)) (x2 : Int) (x3 : Int) (r4 : List (List D)) : Option Out := runF Γ shp (Sh.owns (shp 51)) sf51 n1 [V.agg [X.d (D.int
  IntKind.i64 x0), X.d (D.list 2 r1)], V.agg [X.d (D.int IntKind.i64 x2), X.d (D.int IntKind.i64 x3), X.d (D.list 3 r4)]] []
noncomputable def e52 (Γ : SemL) (n1 : Nat) (x0 : Int) (r1 : List (List D)) (x2 : Int) (x3 : Int) (r4 : List (List D)) : Option Out := runF Γ shp (Sh.owns (shp 52)) sf52 n1 [V.agg [X.d (D.int
  IntKind.i64 x0), X.d (D.list 2 r1)], V.agg [X.d (D.int IntKind.i64 x2), X.d (D.int IntKind.i64 x3), X.d (D.list 3 r4)]] []
noncomputable def l28_0 (n0 : Nat) (Γ : SemL) (n2 : Nat) (x0 : Int) (r1 : List (List D)) (x2 : Int) (x3 : Int) : Option Out := loopK Γ shp n0 [3, 7, 8, 9] lb28_0 (St.mk [(3, V.one (X.d (D.int
  IntKind.i64 x0))), (7, V.one (X.d (D.list 3 r1))), (8, V.one (X.d (D.int IntKind.i64 x2))), (9, V.one (X.d (D.int IntKind.i64 x3)))] [] [] 0 0 0) (kBlk 0 (kSeq (some [3]) (fun s K => Jn Γ
  shp n2 j28_2 s K) (finK (Sh.owns (shp 28)) (SFunc.results sf28) 0)))
noncomputable def e56 (Γ : SemL) (n1 : Nat) (x0 : Int) (x1 : Int) (r2 : List (List D)) (x3 : Int) : Option Out := runF Γ shp (Sh.owns (shp 56)) sf56 n1 [V.agg [X.d (D.int IntKind.i64 x0), X.d
  (D.int IntKind.i64 x1), X.d (D.list 3 r2)], V.one (X.d (D.int IntKind.i64 x3))] []
noncomputable def q51_0 (Γ : SemL) (n1 : Nat) (x0 : Int) (r1 : List (List D)) (x2 : Int) (x3 : Int) (r4 : List (List D)) : Option Out := Jn Γ shp n1 j51_0 (St.mk [(2, V.one (X.ptr 0 0)), (3,
  V.one (X.ptr 1 0))] [(0, Blk.mk [Lf.int IntKind.i64, Lf.lst 2] [X.d (D.int IntKind.i64 x0), X.d (D.list 2 r1)]), (1, Blk.mk [Lf.int IntKind.i64, Lf.int IntKind.i64, Lf.lst 3] [X.d (D.int
  IntKind.i64 x2), X.d (D.int IntKind.i64 x3), X.d (D.list 3 r4)])] [] 2 0 0) (finK (Sh.owns (shp 51)) (SFunc.results sf51) 0)
noncomputable def q52_0 (Γ : SemL) (n1 : Nat) (x0 : Int) (x1 : Int) (r2 : List (List D)) (x3 : Int) (x4 : Int) (r5 : List (List D)) : Option Out := Jn Γ shp n1 j52_0 (St.mk [(2, V.one (X.ptr
  0 0)), (3, V.one (X.ptr 1 0)), (5, V.one (X.d (D.int IntKind.i64 x0)))] [(0, Blk.mk [Lf.int IntKind.i64, Lf.lst 2] [X.d (D.int IntKind.i64 x1), X.d (D.list 2 r2)]), (1, Blk.mk [Lf.int
  IntKind.i64, Lf.int IntKind.i64, Lf.lst 3] [X.d (D.int IntKind.i64 x3), X.d (D.int IntKind.i64 x4), X.d (D.list 3 r5)])] [] 2 0 0) (finK (Sh.owns (shp 52)) (SFunc.results sf52) 0)
noncomputable def e51_v1 (Γ : SemL) (n1 : Nat) (x0 : Int) (x1 : Int) (x2 : Int) (r3 : List (List D)) : Option Out := runF Γ shp (Sh.owns (shp 51)) sf51 n1 [V.agg [X.d (D.int IntKind.i64 x0),
  X.nilL 2], V.agg [X.d (D.int IntKind.i64 x1), X.d (D.int IntKind.i64 x2), X.d (D.list 3 r3)]] []
noncomputable def q28_0 (Γ : SemL) (n1 : Nat) (n2 : Nat) (x0 : Int) (r1 : List (List D)) (x2 : Int) (x3 : Int) : Option Out := Jn Γ shp n1 j28_0 (St.mk [(3, V.one (X.d (D.int IntKind.i64
  x0))), (7, V.one (X.d (D.list 3 r1))), (8, V.one (X.d (D.int IntKind.i64 x2))), (9, V.one (X.d (D.int IntKind.i64 x3)))] [] [] 0 0 0) (kLoop (loopK Γ shp n1) [3, 7, 8, 9] lb28_0 (kBlk 0
  (kSeq (some [3]) (fun s K => Jn Γ shp n2 j28_2 s K) (finK (Sh.owns (shp 28)) (SFunc.results sf28) 0))))
noncomputable def q28_2 (Γ : SemL) (n1 : Nat) (x0 : Int) : Option Out := Jn Γ shp n1 j28_2 (St.mk [(3, V.one (X.d (D.int IntKind.i64 x0)))] [] [] 0 0 0) (finK (Sh.owns (shp 28))
  (SFunc.results sf28) 0)
noncomputable def l56_0 (n0 : Nat) (Γ : SemL) (n2 : Nat) (x0 : Int) (x1 : Int) (x2 : Int) (x3 : Int) (r4 : List (List D)) : Option Out := loopK Γ shp n0 [1, 2, 5] lb56_0 (St.mk [(1, V.one
  (X.d (D.int IntKind.i64 x0))), (2, V.one (X.ptr 0 0)), (5, V.one (X.d (D.int IntKind.i64 x1)))] [(0, Blk.mk [Lf.int IntKind.i64, Lf.int IntKind.i64, Lf.lst 3] [X.d (D.int IntKind.i64 x2),
  X.d (D.int IntKind.i64 x3), X.d (D.list 3 r4)])] [] 1 0 0) (kBlk 0 (kSeq (some [1]) (fun s K => Jn Γ shp n2 j56_2 s K) (finK (Sh.owns (shp 56)) (SFunc.results sf56) 0)))
noncomputable def e72 (Γ : SemL) (n1 : Nat) (r0 : List (List D)) (r1 : List (List D)) : Option Out := runF Γ shp (Sh.owns (shp 72)) sf72 n1 [V.one (X.d (D.list 2 r0)), V.one (X.d (D.list 3
  r1)), V.one (X.fn 51 [])] []
noncomputable def q51_1 (Γ : SemL) (n1 : Nat) (x0 : Int) (r1 : List (List D)) (x2 : Int) (x3 : Int) (r4 : List (List D)) : Option Out := Jn Γ shp n1 j51_1 (St.mk [(2, V.one (X.ptr 0 0)), (3,
  V.one (X.ptr 1 0))] [(0, Blk.mk [Lf.int IntKind.i64, Lf.lst 2] [X.d (D.int IntKind.i64 x0), X.d (D.list 2 r1)]), (1, Blk.mk [Lf.int IntKind.i64, Lf.int IntKind.i64, Lf.lst 3] [X.d (D.int
  IntKind.i64 x2), X.d (D.int IntKind.i64 x3), X.d (D.list 3 r4)])] [] 2 0 0) (finK (Sh.owns (shp 51)) (SFunc.results sf51) 0)
noncomputable def q52_1 (Γ : SemL) (n1 : Nat) (x0 : Int) (x1 : Int) (r2 : List (List D)) (x3 : Int) (x4 : Int) (r5 : List (List D)) : Option Out := Jn Γ shp n1 j52_1 (St.mk [(2, V.one (X.ptr
  0 0)), (3, V.one (X.ptr 1 0)), (5, V.one (X.d (D.int IntKind.i64 x0)))] [(0, Blk.mk [Lf.int IntKind.i64, Lf.lst 2] [X.d (D.int IntKind.i64 x1), X.d (D.list 2 r2)]), (1, Blk.mk [Lf.int
  IntKind.i64, Lf.int IntKind.i64, Lf.lst 3] [X.d (D.int IntKind.i64 x3), X.d (D.int IntKind.i64 x4), X.d (D.list 3 r5)])] [] 2 0 0) (finK (Sh.owns (shp 52)) (SFunc.results sf52) 0)
noncomputable def q51_0_v1 (Γ : SemL) (n1 : Nat) (x0 : Int) (x1 : Int) (x2 : Int) (r3 : List (List D)) : Option Out := Jn Γ shp n1 j51_0 (St.mk [(2, V.one (X.ptr 0 0)), (3, V.one (X.ptr 1
  0))] [(0, Blk.mk [Lf.int IntKind.i64, Lf.lst 2] [X.d (D.int IntKind.i64 x0), X.nilL 2]), (1, Blk.mk [Lf.int IntKind.i64, Lf.int IntKind.i64, Lf.lst 3] [X.d (D.int IntKind.i64 x1), X.d
  (D.int IntKind.i64 x2), X.d (D.list 3 r3)])] [] 2 0 0) (finK (Sh.owns (shp 51)) (SFunc.results sf51) 0)
noncomputable def q28_1 (Γ : SemL) (n1 : Nat) (n2 : Nat) (x0 : Int) (r1 : List (List D)) (x2 : Int) (x3 : Int) : Option Out := Jn Γ shp n1 j28_1 (St.mk [(3, V.one (X.d (D.int IntKind.i64
  x0))), (7, V.one (X.d (D.list 3 r1))), (8, V.one (X.d (D.int IntKind.i64 x2))), (9, V.one (X.d (D.int IntKind.i64 x3)))] [] [] 0 0 0) (kLoop (loopK Γ shp n1) [3, 7, 8, 9] lb28_0 (kBlk 0
  (kSeq (some [3]) (fun s K => Jn Γ shp n2 j28_2 s K) (finK (Sh.owns (shp 28)) (SFunc.results sf28) 0))))
noncomputable def q56_0 (Γ : SemL) (n1 : Nat) (n2 : Nat) (x0 : Int) (x1 : Int) (x2 : Int) (x3 : Int) (r4 : List (List D)) : Option Out := Jn Γ shp n1 j56_0 (St.mk [(1, V.one (X.d (D.int
  IntKind.i64 x0))), (2, V.one (X.ptr 0 0)), (5, V.one (X.d (D.int IntKind.i64 x1)))] [(0, Blk.mk [Lf.int IntKind.i64, Lf.int IntKind.i64, Lf.lst 3] [X.d (D.int IntKind.i64 x2), X.d (D.int
  IntKind.i64 x3), X.d (D.list 3 r4)])] [] 1 0 0) (kLoop (loopK Γ shp n1) [1, 2, 5] lb56_0 (kBlk 0 (kSeq (some [1]) (fun s K => Jn Γ shp n2 j56_2 s K) (finK (Sh.owns (shp 56)) (SFunc.results
  sf56) 0))))
noncomputable def q56_2 (Γ : SemL) (n1 : Nat) (x0 : Int) : Option Out := Jn Γ shp n1 j56_2 (St.mk [(1, V.one (X.d (D.int IntKind.i64 x0)))] [] [] 0 0 0) (finK (Sh.owns (shp 56))
  (SFunc.results sf56) 0)
noncomputable def q72_0 (Γ : SemL) (n1 : Nat) (r0 : List (List D)) (r1 : List (List D)) : Option Out := Jn Γ shp n1 j72_0 (St.mk [(0, V.one (X.d (D.list 2 r0))), (1, V.one (X.d (D.list 3
  r1))), (2, V.one (X.fn 51 []))] [] [] 0 0 0) (finK (Sh.owns (shp 72)) (SFunc.results sf72) 0)
noncomputable def e73 (Γ : SemL) (n1 : Nat) (r0 : List (List D)) (x1 : Int) (r2 : List (List D)) : Option Out := runF Γ shp (Sh.owns (shp 73)) sf73 n1 [V.one (X.d (D.list 3 r0)), V.one (X.fn
  74 [X.ptr 0 0])] [([Lf.int IntKind.i64, Lf.lst 2], [D.int IntKind.i64 x1, D.list 2 r2])]
noncomputable def l52_0 (n0 : Nat) (Γ : SemL) (n2 : Nat) (x0 : Int) (x1 : Int) (x2 : Int) (r3 : List (List D)) (x4 : Int) (x5 : Int) (r6 : List (List D)) : Option Out := loopK Γ shp n0 [2, 3,
  5, 6] lb52_0 (St.mk [(2, V.one (X.ptr 0 0)), (3, V.one (X.ptr 1 0)), (5, V.one (X.d (D.int IntKind.i64 x0))), (6, V.one (X.d (D.int IntKind.i64 x1)))] [(0, Blk.mk [Lf.int IntKind.i64,
  Lf.lst 2] [X.d (D.int IntKind.i64 x2), X.d (D.list 2 r3)]), (1, Blk.mk [Lf.int IntKind.i64, Lf.int IntKind.i64, Lf.lst 3] [X.d (D.int IntKind.i64 x4), X.d (D.int IntKind.i64 x5), X.d
  (D.list 3 r6)])] [] 2 0 0) (kBlk 1 (kSeq (some []) (fun s K => Jn Γ shp n2 j52_5 s K) (finK (Sh.owns (shp 52)) (SFunc.results sf52) 0)))
noncomputable def e72_v1 (Γ : SemL) (n1 : Nat) (r0 : List (List D)) : Option Out := runF Γ shp (Sh.owns (shp 72)) sf72 n1 [V.one (X.nilL 2), V.one (X.d (D.list 3 r0)), V.one (X.fn 51 [])] []
noncomputable def q51_1_v1 (Γ : SemL) (n1 : Nat) (x0 : Int) (x1 : Int) (x2 : Int) (r3 : List (List D)) : Option Out := Jn Γ shp n1 j51_1 (St.mk [(2, V.one (X.ptr 0 0)), (3, V.one (X.ptr 1
  0))] [(0, Blk.mk [Lf.int IntKind.i64, Lf.lst 2] [X.d (D.int IntKind.i64 x0), X.nilL 2]), (1, Blk.mk [Lf.int IntKind.i64, Lf.int IntKind.i64, Lf.lst 3] [X.d (D.int IntKind.i64 x1), X.d
  (D.int IntKind.i64 x2), X.d (D.list 3 r3)])] [] 2 0 0) (finK (Sh.owns (shp 51)) (SFunc.results sf51) 0)
noncomputable def q56_1 (Γ : SemL) (n1 : Nat) (n2 : Nat) (x0 : Int) (x1 : Int) (x2 : Int) (x3 : Int) (r4 : List (List D)) : Option Out := Jn Γ shp n1 j56_1 (St.mk [(1, V.one (X.d (D.int
  IntKind.i64 x0))), (2, V.one (X.ptr 0 0)), (5, V.one (X.d (D.int IntKind.i64 x1)))] [(0, Blk.mk [Lf.int IntKind.i64, Lf.int IntKind.i64, Lf.lst 3] [X.d (D.int IntKind.i64 x2), X.d (D.int
  IntKind.i64 x3), X.d (D.list 3 r4)])] [] 1 0 0) (kLoop (loopK Γ shp n1) [1, 2, 5] lb56_0 (kBlk 0 (kSeq (some [1]) (fun s K => Jn Γ shp n2 j56_2 s K) (finK (Sh.owns (shp 56)) (SFunc.results
  sf56) 0))))
noncomputable def l72_0 (n0 : Nat) (Γ : SemL) (n2 : Nat) (r0 : List (List D)) (r1 : List (List D)) (x2 : Int) (x3 : Int) : Option Out := loopK Γ shp n0 [1, 2, 15, 16, 17] lb72_0 (St.mk [(1,
  V.one (X.d (D.list 3 r0))), (2, V.one (X.fn 51 [])), (15, V.one (X.d (D.list 2 r1))), (16, V.one (X.d (D.int IntKind.i64 x2))), (17, V.one (X.d (D.int IntKind.i64 x3)))] [] [] 0 0 0) (kBlk
  0 (kSeq (some []) (fun s K => Jn Γ shp n2 j72_3 s K) (finK (Sh.owns (shp 72)) (SFunc.results sf72) 0)))
noncomputable def e87 (Γ : SemL) (n1 : Nat) (r0 : List (List D)) (x1 : Int) (r2 : List (List D)) : Option Out := runF Γ shp (Sh.owns (shp 87)) sf87 n1 [V.one (X.d (D.list 3 r0)), V.one (X.fn
  74 [X.ptr 0 0])] [([Lf.int IntKind.i64, Lf.lst 2], [D.int IntKind.i64 x1, D.list 2 r2])]
noncomputable def q52_2 (Γ : SemL) (n1 : Nat) (n2 : Nat) (x0 : Int) (x1 : Int) (x2 : Int) (r3 : List (List D)) (x4 : Int) (x5 : Int) (r6 : List (List D)) : Option Out := Jn Γ shp n1 j52_2
  (St.mk [(2, V.one (X.ptr 0 0)), (3, V.one (X.ptr 1 0)), (5, V.one (X.d (D.int IntKind.i64 x0))), (6, V.one (X.d (D.int IntKind.i64 x1)))] [(0, Blk.mk [Lf.int IntKind.i64, Lf.lst 2] [X.d
  (D.int IntKind.i64 x2), X.d (D.list 2 r3)]), (1, Blk.mk [Lf.int IntKind.i64, Lf.int IntKind.i64, Lf.lst 3] [X.d (D.int IntKind.i64 x4), X.d (D.int IntKind.i64 x5), X.d (D.list 3 r6)])] [] 2
  0 0) (kLoop (loopK Γ shp n1) [2, 3, 5, 6] lb52_0 (kBlk 1 (kSeq (some []) (fun s K => Jn Γ shp n2 j52_5 s K) (finK (Sh.owns (shp 52)) (SFunc.results sf52) 0))))
noncomputable def q52_5 (Γ : SemL) (n1 : Nat) : Option Out := Jn Γ shp n1 j52_5 (St.mk [] [] [] 0 0 0) (finK (Sh.owns (shp 52)) (SFunc.results sf52) 0)
noncomputable def q72_0_v1 (Γ : SemL) (n1 : Nat) (r0 : List (List D)) : Option Out := Jn Γ shp n1 j72_0 (St.mk [(0, V.one (X.nilL 2)), (1, V.one (X.d (D.list 3 r0))), (2, V.one (X.fn 51 []))]
  [] [] 0 0 0) (finK (Sh.owns (shp 72)) (SFunc.results sf72) 0)
noncomputable def e52_v1 (Γ : SemL) (n1 : Nat) (x0 : Int) (x1 : Int) (x2 : Int) (r3 : List (List D)) : Option Out := runF Γ shp (Sh.owns (shp 52)) sf52 n1 [V.agg [X.d (D.int IntKind.i64 x0),
  X.nilL 2], V.agg [X.d (D.int IntKind.i64 x1), X.d (D.int IntKind.i64 x2), X.d (D.list 3 r3)]] []
noncomputable def q72_1 (Γ : SemL) (n1 : Nat) (n2 : Nat) (r0 : List (List D)) (r1 : List (List D)) (x2 : Int) (x3 : Int) : Option Out := Jn Γ shp n1 j72_1 (St.mk [(1, V.one (X.d (D.list 3
  r0))), (2, V.one (X.fn 51 [])), (15, V.one (X.d (D.list 2 r1))), (16, V.one (X.d (D.int IntKind.i64 x2))), (17, V.one (X.d (D.int IntKind.i64 x3)))] [] [] 0 0 0) (kLoop (loopK Γ shp n1) [1,
  2, 15, 16, 17] lb72_0 (kBlk 0 (kSeq (some []) (fun s K => Jn Γ shp n2 j72_3 s K) (finK (Sh.owns (shp 72)) (SFunc.results sf72) 0))))
noncomputable def q72_3 (Γ : SemL) (n1 : Nat) : Option Out := Jn Γ shp n1 j72_3 (St.mk [] [] [] 0 0 0) (finK (Sh.owns (shp 72)) (SFunc.results sf72) 0)
noncomputable def l87_0 (n0 : Nat) (Γ : SemL) (n2 : Nat) (z3 : Int) (z4 : List (List D)) (r0 : List (List D)) (x1 : Int) (x2 : Int) (x3 : Int) (r4 : List (List D)) : Option Out := loopK Γ shp
  n0 [0, 1, 7, 8] lb87_0 (St.mk [(0, V.one (X.d (D.list 3 r0))), (1, V.one (X.fn 74 [X.ptr 0 0])), (7, V.one (X.d (D.int IntKind.i64 x1))), (8, V.one (X.d (D.int IntKind.i64 x2)))] [(0,
  Blk.mk [Lf.int IntKind.i64, Lf.lst 2] [X.d (D.int IntKind.i64 x3), X.d (D.list 2 r4)])] [] 1 0 1) (kBlk 0 (kSeq (some []) (fun s K => Jn Γ shp n2 j87_2 s K) (finK (Sh.owns (shp 87))
  (SFunc.results sf87) (List.length [([Lf.int IntKind.i64, Lf.lst 2], [D.int IntKind.i64 z3, D.list 2 z4])]))))
noncomputable def q52_3 (Γ : SemL) (n1 : Nat) (n2 : Nat) (x0 : Int) (x1 : Int) (x2 : Int) (r3 : List (List D)) (x4 : Int) (x5 : Int) (r6 : List (List D)) (y7 : D) (y8 : D) : Option Out := Jn
  Γ shp n1 j52_3 (St.mk [(2, V.one (X.ptr 0 0)), (3, V.one (X.ptr 1 0)), (5, V.one (X.d (D.int IntKind.i64 x0))), (6, V.one (X.d (D.int IntKind.i64 x1))), (7, V.one (X.ptr 2 0))] [(0, Blk.mk
  [Lf.int IntKind.i64, Lf.lst 2] [X.d (D.int IntKind.i64 x2), X.d (D.list 2 r3)]), (1, Blk.mk [Lf.int IntKind.i64, Lf.int IntKind.i64, Lf.lst 3] [X.d (D.int IntKind.i64 x4), X.d (D.int
  IntKind.i64 x5), X.d (D.list 3 r6)]), (2, Blk.mk [Lf.int IntKind.i64, Lf.lst 2] [X.d y7, X.d y8])] [] 3 0 0) (kBlk 2 (kSeq (some [2, 3, 5, 6]) (fun s K => Jn Γ shp n1 j52_4 s K) (kLoop
  (loopK Γ shp n1) [2, 3, 5, 6] lb52_0 (kBlk 1 (kSeq (some []) (fun s K => Jn Γ shp n2 j52_5 s K) (finK (Sh.owns (shp 52)) (SFunc.results sf52) 0))))))
noncomputable def l72_0_v1 (n0 : Nat) (Γ : SemL) (n2 : Nat) (r0 : List (List D)) (x1 : Int) (x2 : Int) : Option Out := loopK Γ shp n0 [1, 2, 15, 16, 17] lb72_0 (St.mk [(1, V.one (X.d (D.list
  3 r0))), (2, V.one (X.fn 51 [])), (15, V.one (X.nilL 2)), (16, V.one (X.d (D.int IntKind.i64 x1))), (17, V.one (X.d (D.int IntKind.i64 x2)))] [] [] 0 0 0) (kBlk 0 (kSeq (some []) (fun s K
  => Jn Γ shp n2 j72_3 s K) (finK (Sh.owns (shp 72)) (SFunc.results sf72) 0)))
noncomputable def q52_0_v1 (Γ : SemL) (n1 : Nat) (x0 : Int) (x1 : Int) (x2 : Int) (x3 : Int) (r4 : List (List D)) : Option Out := Jn Γ shp n1 j52_0 (St.mk [(2, V.one (X.ptr 0 0)), (3, V.one
  (X.ptr 1 0)), (5, V.one (X.d (D.int IntKind.i64 x0)))] [(0, Blk.mk [Lf.int IntKind.i64, Lf.lst 2] [X.d (D.int IntKind.i64 x1), X.nilL 2]), (1, Blk.mk [Lf.int IntKind.i64, Lf.int
  IntKind.i64, Lf.lst 3] [X.d (D.int IntKind.i64 x2), X.d (D.int IntKind.i64 x3), X.d (D.list 3 r4)])] [] 2 0 0) (finK (Sh.owns (shp 52)) (SFunc.results sf52) 0)
noncomputable def q72_2 (Γ : SemL) (n1 : Nat) (n2 : Nat) (r0 : List (List D)) (r1 : List (List D)) (x2 : Int) (x3 : Int) : Option Out := Jn Γ shp n1 j72_2 (St.mk [(1, V.one (X.d (D.list 3
  r0))), (2, V.one (X.fn 51 [])), (15, V.one (X.d (D.list 2 r1))), (16, V.one (X.d (D.int IntKind.i64 x2))), (17, V.one (X.d (D.int IntKind.i64 x3)))] [] [] 0 0 0) (kLoop (loopK Γ shp n1) [1,
  2, 15, 16, 17] lb72_0 (kBlk 0 (kSeq (some []) (fun s K => Jn Γ shp n2 j72_3 s K) (finK (Sh.owns (shp 72)) (SFunc.results sf72) 0))))
noncomputable def q87_0 (Γ : SemL) (n1 : Nat) (n2 : Nat) (z3 : Int) (z4 : List (List D)) (r0 : List (List D)) (x1 : Int) (x2 : Int) (x3 : Int) (r4 : List (List D)) : Option Out := Jn Γ shp n1
  j87_0 (St.mk [(0, V.one (X.d (D.list 3 r0))), (1, V.one (X.fn 74 [X.ptr 0 0])), (7, V.one (X.d (D.int IntKind.i64 x1))), (8, V.one (X.d (D.int IntKind.i64 x2)))] [(0, Blk.mk [Lf.int
  IntKind.i64, Lf.lst 2] [X.d (D.int IntKind.i64 x3), X.d (D.list 2 r4)])] [] 1 0 1) (kLoop (loopK Γ shp n1) [0, 1, 7, 8] lb87_0 (kBlk 0 (kSeq (some []) (fun s K => Jn Γ shp n2 j87_2 s K)
  (finK (Sh.owns (shp 87)) (SFunc.results sf87) (List.length [([Lf.int IntKind.i64, Lf.lst 2], [D.int IntKind.i64 z3, D.list 2 z4])])))))
noncomputable def q87_2 (Γ : SemL) (n1 : Nat) (z2 : Int) (z3 : List (List D)) (x0 : Int) (r1 : List (List D)) : Option Out := Jn Γ shp n1 j87_2 (St.mk [] [(0, Blk.mk [Lf.int IntKind.i64,
  Lf.lst 2] [X.d (D.int IntKind.i64 x0), X.d (D.list 2 r1)])] [] 1 0 1) (finK (Sh.owns (shp 87)) (SFunc.results sf87) (List.length [([Lf.int IntKind.i64, Lf.lst 2], [D.int IntKind.i64 z2,
  D.list 2 z3])]))
noncomputable def q52_4 (Γ : SemL) (n1 : Nat) (n2 : Nat) (x0 : Int) (x1 : Int) (x2 : Int) (r3 : List (List D)) (x4 : Int) (x5 : Int) (r6 : List (List D)) : Option Out := Jn Γ shp n1 j52_4
  (St.mk [(2, V.one (X.ptr 0 0)), (3, V.one (X.ptr 1 0)), (5, V.one (X.d (D.int IntKind.i64 x0))), (6, V.one (X.d (D.int IntKind.i64 x1)))] [(0, Blk.mk [Lf.int IntKind.i64, Lf.lst 2] [X.d
  (D.int IntKind.i64 x2), X.d (D.list 2 r3)]), (1, Blk.mk [Lf.int IntKind.i64, Lf.int IntKind.i64, Lf.lst 3] [X.d (D.int IntKind.i64 x4), X.d (D.int IntKind.i64 x5), X.d (D.list 3 r6)])] [] 2
  0 0) (kLoop (loopK Γ shp n1) [2, 3, 5, 6] lb52_0 (kBlk 1 (kSeq (some []) (fun s K => Jn Γ shp n2 j52_5 s K) (finK (Sh.owns (shp 52)) (SFunc.results sf52) 0))))
noncomputable def q72_1_v1 (Γ : SemL) (n1 : Nat) (n2 : Nat) (r0 : List (List D)) (x1 : Int) (x2 : Int) : Option Out := Jn Γ shp n1 j72_1 (St.mk [(1, V.one (X.d (D.list 3 r0))), (2, V.one
  (X.fn 51 [])), (15, V.one (X.nilL 2)), (16, V.one (X.d (D.int IntKind.i64 x1))), (17, V.one (X.d (D.int IntKind.i64 x2)))] [] [] 0 0 0) (kLoop (loopK Γ shp n1) [1, 2, 15, 16, 17] lb72_0
  (kBlk 0 (kSeq (some []) (fun s K => Jn Γ shp n2 j72_3 s K) (finK (Sh.owns (shp 72)) (SFunc.results sf72) 0))))
noncomputable def q52_1_v1 (Γ : SemL) (n1 : Nat) (x0 : Int) (x1 : Int) (x2 : Int) (x3 : Int) (r4 : List (List D)) : Option Out := Jn Γ shp n1 j52_1 (St.mk [(2, V.one (X.ptr 0 0)), (3, V.one
  (X.ptr 1 0)), (5, V.one (X.d (D.int IntKind.i64 x0)))] [(0, Blk.mk [Lf.int IntKind.i64, Lf.lst 2] [X.d (D.int IntKind.i64 x1), X.nilL 2]), (1, Blk.mk [Lf.int IntKind.i64, Lf.int
  IntKind.i64, Lf.lst 3] [X.d (D.int IntKind.i64 x2), X.d (D.int IntKind.i64 x3), X.d (D.list 3 r4)])] [] 2 0 0) (finK (Sh.owns (shp 52)) (SFunc.results sf52) 0)
noncomputable def e74 (Γ : SemL) (n1 : Nat) (x0 : Int) (x1 : Int) (r2 : List (List D)) (x3 : Int) (r4 : List (List D)) : Option Out := runF Γ shp (Sh.owns (shp 74)) sf74 n1 [V.agg [X.d (D.int
  IntKind.i64 x0), X.d (D.int IntKind.i64 x1), X.d (D.list 3 r2)], V.one (X.ptr 0 0)] [([Lf.int IntKind.i64, Lf.lst 2], [D.int IntKind.i64 x3, D.list 2 r4])]
noncomputable def q87_1 (Γ : SemL) (n1 : Nat) (n2 : Nat) (z3 : Int) (z4 : List (List D)) (r0 : List (List D)) (x1 : Int) (x2 : Int) (x3 : Int) (r4 : List (List D)) : Option Out := Jn Γ shp n1
  j87_1 (St.mk [(0, V.one (X.d (D.list 3 r0))), (1, V.one (X.fn 74 [X.ptr 0 0])), (7, V.one (X.d (D.int IntKind.i64 x1))), (8, V.one (X.d (D.int IntKind.i64 x2)))] [(0, Blk.mk [Lf.int
  IntKind.i64, Lf.lst 2] [X.d (D.int IntKind.i64 x3), X.d (D.list 2 r4)])] [] 1 0 1) (kLoop (loopK Γ shp n1) [0, 1, 7, 8] lb87_0 (kBlk 0 (kSeq (some []) (fun s K => Jn Γ shp n2 j87_2 s K)
  (finK (Sh.owns (shp 87)) (SFunc.results sf87) (List.length [([Lf.int IntKind.i64, Lf.lst 2], [D.int IntKind.i64 z3, D.list 2 z4])])))))
noncomputable def e51_v2 (Γ : SemL) (n1 : Nat) (x0 : Int) (x1 : Int) (r2 : List (List D)) : Option Out := runF Γ shp (Sh.owns (shp 51)) sf51 n1 [V.agg [X.d D.junk, X.d D.junk], V.agg [X.d
  (D.int IntKind.i64 x0), X.d (D.int IntKind.i64 x1), X.d (D.list 3 r2)]] []
noncomputable def q72_2_v1 (Γ : SemL) (n1 : Nat) (n2 : Nat) (r0 : List (List D)) (x1 : Int) (x2 : Int) : Option Out := Jn Γ shp n1 j72_2 (St.mk [(1, V.one (X.d (D.list 3 r0))), (2, V.one
  (X.fn 51 [])), (15, V.one (X.nilL 2)), (16, V.one (X.d (D.int IntKind.i64 x1))), (17, V.one (X.d (D.int IntKind.i64 x2)))] [] [] 0 0 0) (kLoop (loopK Γ shp n1) [1, 2, 15, 16, 17] lb72_0
  (kBlk 0 (kSeq (some []) (fun s K => Jn Γ shp n2 j72_3 s K) (finK (Sh.owns (shp 72)) (SFunc.results sf72) 0))))
noncomputable def l52_0_v1 (n0 : Nat) (Γ : SemL) (n2 : Nat) (x0 : Int) (x1 : Int) (x2 : Int) (x3 : Int) (x4 : Int) (r5 : List (List D)) : Option Out := loopK Γ shp n0 [2, 3, 5, 6] lb52_0
  (St.mk [(2, V.one (X.ptr 0 0)), (3, V.one (X.ptr 1 0)), (5, V.one (X.d (D.int IntKind.i64 x0))), (6, V.one (X.d (D.int IntKind.i64 x1)))] [(0, Blk.mk [Lf.int IntKind.i64, Lf.lst 2] [X.d
  (D.int IntKind.i64 x2), X.nilL 2]), (1, Blk.mk [Lf.int IntKind.i64, Lf.int IntKind.i64, Lf.lst 3] [X.d (D.int IntKind.i64 x3), X.d (D.int IntKind.i64 x4), X.d (D.list 3 r5)])] [] 2 0 0)
  (kBlk 1 (kSeq (some []) (fun s K => Jn Γ shp n2 j52_5 s K) (finK (Sh.owns (shp 52)) (SFunc.results sf52) 0)))
noncomputable def q52_2_v1 (Γ : SemL) (n1 : Nat) (n2 : Nat) (x0 : Int) (x1 : Int) (x2 : Int) (x3 : Int) (x4 : Int) (r5 : List (List D)) : Option Out := Jn Γ shp n1 j52_2 (St.mk [(2, V.one
  (X.ptr 0 0)), (3, V.one (X.ptr 1 0)), (5, V.one (X.d (D.int IntKind.i64 x0))), (6, V.one (X.d (D.int IntKind.i64 x1)))] [(0, Blk.mk [Lf.int IntKind.i64, Lf.lst 2] [X.d (D.int IntKind.i64
  x2), X.nilL 2]), (1, Blk.mk [Lf.int IntKind.i64, Lf.int IntKind.i64, Lf.lst 3] [X.d (D.int IntKind.i64 x3), X.d (D.int IntKind.i64 x4), X.d (D.list 3 r5)])] [] 2 0 0) (kLoop (loopK Γ shp
  n1) [2, 3, 5, 6] lb52_0 (kBlk 1 (kSeq (some []) (fun s K => Jn Γ shp n2 j52_5 s K) (finK (Sh.owns (shp 52)) (SFunc.results sf52) 0))))
theorem e24_eq (Γ : SemL) (n1 : Nat) (x0 : Int) (r1 : List (List D)) (x2 : Int) (x3 : Int) (r4 : List (List D)) : e24 Γ n1 x0 r1 x2 x3 r4 = r_oB (Γ 16 [V.agg [X.d (D.int IntKind.i64 x0), X.d
  (D.list 2 r1)]] []) [] fun c3_ => bif c3_ then r_oB (Γ 51 [V.agg [X.d (D.int IntKind.i64 x0), X.d (D.list 2 r1)], V.agg [X.d (D.int IntKind.i64 x2), X.d (D.int IntKind.i64 x3), X.d (D.list
  3 r4)]] []) [] fun c2_ => bif c2_ then r_oI (Γ 28 [V.agg [X.d (D.int IntKind.i64 x2), X.d (D.int IntKind.i64 x3), X.d (D.list 3 r4)]] []) [] fun i1_ => some (Out.mk true (V.one (X.d (D.bool
  (decide (i1_ ≤ 1000))))) D.junk [] 0) else some (Out.mk true (V.one (X.d (D.bool false))) D.junk [] 0) else some (Out.mk true (V.one (X.d (D.bool false))) D.junk [] 0) := (run_step
  ..).trans (by kernel_rfl)
theorem e25_eq (Γ : SemL) (n1 : Nat) (x0 : Int) (r1 : List (List D)) (x2 : Int) (x3 : Int) (r4 : List (List D)) : e25 Γ n1 x0 r1 x2 x3 r4 = r_oB (Γ 17 [V.agg [X.d (D.int IntKind.i64 x0), X.d
  (D.list 2 r1)]] []) [] fun c3_ => bif c3_ then r_oB (Γ 52 [V.agg [X.d (D.int IntKind.i64 x0), X.d (D.list 2 r1)], V.agg [X.d (D.int IntKind.i64 x2), X.d (D.int IntKind.i64 x3), X.d (D.list
  3 r4)]] []) [] fun c2_ => bif c2_ then r_oI (Γ 29 [V.agg [X.d (D.int IntKind.i64 x2), X.d (D.int IntKind.i64 x3), X.d (D.list 3 r4)]] []) [] fun i1_ => some (Out.mk true (V.one (X.d (D.bool
  (decide (i1_ ≤ 1000))))) D.junk [] 0) else some (Out.mk true (V.one (X.d (D.bool false))) D.junk [] 0) else some (Out.mk true (V.one (X.d (D.bool false))) D.junk [] 0) := (run_step
  ..).trans (by kernel_rfl)
theorem e28_eq (Γ : SemL) (n1 : Nat) (x0 : Int) (x1 : Int) (r2 : List (List D)) : e28 Γ n1 x0 x1 r2 = l28_0 n1 Γ n1 1 r2 (Int.ofNat (List.length r2)) 0 := (run_step ..).trans (by kernel_rfl)
theorem e29_eq (Γ : SemL) (n1 : Nat) (x0 : Int) (x1 : Int) (r2 : List (List D)) : e29 Γ n1 x0 x1 r2 = r_oI (Γ 56 [V.agg [X.d (D.int IntKind.i64 x0), X.d (D.int IntKind.i64 x1), X.d (D.list 3
  r2)], V.one (X.d (D.int IntKind.i64 0))] []) [] fun i1_ => some (Out.mk true (V.one (X.d (D.int IntKind.i64 i1_))) D.junk [] 0) := (run_step ..).trans (by kernel_rfl)
theorem e51_eq (Γ : SemL) (n1 : Nat) (x0 : Int) (r1 : List (List D)) (x2 : Int) (x3 : Int) (r4 : List (List D)) : e51 Γ n1 x0 r1 x2 x3 r4 = bif x2 != x0 then some (Out.mk true (V.one (X.d
  (D.bool false))) D.junk [] 0) else q51_0 Γ n1 x0 r1 x2 x3 r4 := (run_step ..).trans (by kernel_rfl)
theorem e52_eq (Γ : SemL) (n1 : Nat) (x0 : Int) (r1 : List (List D)) (x2 : Int) (x3 : Int) (r4 : List (List D)) : e52 Γ n1 x0 r1 x2 x3 r4 = bif x2 != x0 then some (Out.mk true (V.one (X.d
  (D.bool false))) D.junk [] 0) else q52_0 Γ n1 (Int.ofNat (List.length r4)) x0 r1 x2 x3 r4 := (run_step ..).trans (by kernel_rfl)
theorem l28_0_eq (n0 : Nat) (Γ : SemL) (n2 : Nat) (x0 : Int) (r1 : List (List D)) (x2 : Int) (x3 : Int) : l28_0 (n0 + 1) Γ n2 x0 r1 x2 x3 = bif decide (x3 < x2) then q28_0 Γ n0 n2 x0 r1 x2 x3
  else q28_2 Γ n2 x0 := (loop_step ..).trans (by kernel_rfl)
theorem e56_eq (Γ : SemL) (n1 : Nat) (x0 : Int) (x1 : Int) (r2 : List (List D)) (x3 : Int) : e56 Γ n1 x0 x1 r2 x3 = l56_0 n1 Γ n1 (IntKind.wrap IntKind.i64 (x3 + 1)) 0 x0 x1 r2 := (run_step
  ..).trans (by kernel_rfl)
theorem q51_0_eq (Γ : SemL) (n1 : Nat) (x0 : Int) (r1 : List (List D)) (x2 : Int) (x3 : Int) (r4 : List (List D)) : q51_0 Γ n1 x0 r1 x2 x3 r4 = bif x0 == 1 then bif x3 == 0 then some (Out.mk
  true (V.one (X.d (D.bool (Int.ofNat (List.length r4) == 0)))) D.junk [] 0) else bif x3 == 1 then some (Out.mk true (V.one (X.d (D.bool (Int.ofNat (List.length r4) == 0)))) D.junk [] 0) else
  some (Out.mk true (V.one (X.d (D.bool false))) D.junk [] 0) else bif x0 == 2 then bif decide (x3 ≥ -2147483648) then bif decide (x3 ≤ 2147483647) then some (Out.mk true (V.one (X.d (D.bool
  (Int.ofNat (List.length r4) == 0)))) D.junk [] 0) else some (Out.mk true (V.one (X.d (D.bool false))) D.junk [] 0) else some (Out.mk true (V.one (X.d (D.bool false))) D.junk [] 0) else bif
  x0 == 3 then bif x3 == 0 then r_oB (Γ 72 [V.one (X.d (D.list 2 r1)), V.one (X.d (D.list 3 r4)), V.one (X.fn 51 [])] []) [] fun c1_ => some (Out.mk true (V.one (X.d (D.bool c1_))) D.junk []
  0) else some (Out.mk true (V.one (X.d (D.bool false))) D.junk [] 0) else q51_1 Γ n1 x0 r1 x2 x3 r4 := (Jn_step ..).trans (by kernel_rfl)
theorem q52_0_eq (Γ : SemL) (n1 : Nat) (x0 : Int) (x1 : Int) (r2 : List (List D)) (x3 : Int) (x4 : Int) (r5 : List (List D)) : q52_0 Γ n1 x0 x1 r2 x3 x4 r5 = bif x1 == 1 then bif x0 == 0 then
  bif x4 == 0 then some (Out.mk true (V.one (X.d (D.bool true))) D.junk [] 0) else some (Out.mk true (V.one (X.d (D.bool (x4 == 1)))) D.junk [] 0) else some (Out.mk true (V.one (X.d (D.bool
  false))) D.junk [] 0) else bif x1 == 2 then bif x0 == 0 then bif decide (x4 ≥ -2147483648) then some (Out.mk true (V.one (X.d (D.bool (decide (x4 ≤ 2147483647))))) D.junk [] 0) else some
  (Out.mk true (V.one (X.d (D.bool false))) D.junk [] 0) else some (Out.mk true (V.one (X.d (D.bool false))) D.junk [] 0) else bif x1 == 3 then bif x4 != 0 then some (Out.mk true (V.one (X.d
  (D.bool false))) D.junk [] 0) else bif x0 != Int.ofNat (List.length r2) then some (Out.mk true (V.one (X.d (D.bool false))) D.junk [] 0) else q52_1 Γ n1 x0 x1 r2 x3 x4 r5 else bif x4 != 0
  then some (Out.mk true (V.one (X.d (D.bool false))) D.junk [] 0) else bif decide (x0 > 32) then some (Out.mk true (V.one (X.d (D.bool false))) D.junk [] 0) else q52_1 Γ n1 x0 x1 r2 x3 x4 r5
  := (Jn_step ..).trans (by kernel_rfl)
theorem e51_v1_eq (Γ : SemL) (n1 : Nat) (x0 : Int) (x1 : Int) (x2 : Int) (r3 : List (List D)) : e51_v1 Γ n1 x0 x1 x2 r3 = bif x1 != x0 then some (Out.mk true (V.one (X.d (D.bool false)))
  D.junk [] 0) else q51_0_v1 Γ n1 x0 x1 x2 r3 := (run_step ..).trans (by kernel_rfl)
theorem q28_0_eq (Γ : SemL) (n1 : Nat) (n2 : Nat) (x0 : Int) (r1 : List (List D)) (x2 : Int) (x3 : Int) : q28_0 Γ n1 n2 x0 r1 x2 x3 = bif decide (0 ≤ x3) && decide (x3 < Int.ofNat
  (List.length r1)) then r_oI (Γ 28 [V.agg [X.d (List.getD (List.getD r1 (Int.toNat x3) []) 0 D.junk), X.d (List.getD (List.getD r1 (Int.toNat x3) []) 1 D.junk), X.d (List.getD (List.getD r1
  (Int.toNat x3) []) 2 D.junk)]] []) [] fun i1_ => bif decide ((if 1001 < IntKind.wrap IntKind.i64 (x0 + i1_) then 1001 else IntKind.wrap IntKind.i64 (x0 + i1_)) > 1000) then q28_2 Γ n2 (if
  1001 < IntKind.wrap IntKind.i64 (x0 + i1_) then 1001 else IntKind.wrap IntKind.i64 (x0 + i1_)) else q28_1 Γ n1 n2 (if 1001 < IntKind.wrap IntKind.i64 (x0 + i1_) then 1001 else IntKind.wrap
  IntKind.i64 (x0 + i1_)) r1 x2 x3 else none := (Jn_step ..).trans (by kernel_rfl)
theorem q28_2_eq (Γ : SemL) (n1 : Nat) (x0 : Int) : q28_2 Γ n1 x0 = some (Out.mk true (V.one (X.d (D.int IntKind.i64 x0))) D.junk [] 0) := (Jn_step ..).trans (by kernel_rfl)
theorem l56_0_eq (n0 : Nat) (Γ : SemL) (n2 : Nat) (x0 : Int) (x1 : Int) (x2 : Int) (x3 : Int) (r4 : List (List D)) : l56_0 (n0 + 1) Γ n2 x0 x1 x2 x3 r4 = bif decide (x1 < Int.ofNat
  (List.length r4)) then bif decide (x0 ≤ 1000) then q56_0 Γ n0 n2 x0 x1 x2 x3 r4 else q56_2 Γ n2 x0 else q56_2 Γ n2 x0 := (loop_step ..).trans (by kernel_rfl)
theorem e72_eq (Γ : SemL) (n1 : Nat) (r0 : List (List D)) (r1 : List (List D)) : e72 Γ n1 r0 r1 = bif Int.ofNat (List.length r0) != Int.ofNat (List.length r1) then some (Out.mk true (V.one
  (X.d (D.bool false))) D.junk [] 0) else q72_0 Γ n1 r0 r1 := (run_step ..).trans (by kernel_rfl)
theorem q51_1_eq (Γ : SemL) (n1 : Nat) (x0 : Int) (r1 : List (List D)) (x2 : Int) (x3 : Int) (r4 : List (List D)) : q51_1 Γ n1 x0 r1 x2 x3 r4 = bif x3 == 0 then bif decide (Int.ofNat
  (List.length r4) ≤ 32) then Option.bind (Γ 73 [V.one (X.d (D.list 3 r4)), V.one (X.fn 74 [X.ptr 0 0])] [([Lf.int IntKind.i64, Lf.lst 2], [D.int IntKind.i64 x0, D.list 2 r1])]) fun o1_ =>
  bif true && D.isInt IntKind.i64 (List.getD (List.getD (Out.rows o1_) 0 []) 0 D.junk) then bif true && D.isList 2 (List.getD (List.getD (Out.rows o1_) 0 []) 1 D.junk) then bif Nat.beq
  (List.length (List.getD (Out.rows o1_) 0 [])) 2 then bif Out.ok o1_ then bif V.isOne (Out.val o1_) then bif X.isD (X.cell (Out.val o1_) 0) && D.isBool (X.dd (X.cell (Out.val o1_) 0)) then
  bif Nat.beq (Out.m o1_) 0 && true then some (Out.mk true (V.one (X.d (D.bool !D.bit (X.dd (X.cell (Out.val o1_) 0))))) D.junk [] 0) else none else none else none else some (Out.mk false
  V.junk (Out.pv o1_) [] 0) else none else none else none else some (Out.mk true (V.one (X.d (D.bool false))) D.junk [] 0) else some (Out.mk true (V.one (X.d (D.bool false))) D.junk [] 0) :=
  (Jn_step ..).trans (by kernel_rfl)
theorem q52_1_eq (Γ : SemL) (n1 : Nat) (x0 : Int) (x1 : Int) (r2 : List (List D)) (x3 : Int) (x4 : Int) (r5 : List (List D)) : q52_1 Γ n1 x0 x1 r2 x3 x4 r5 = l52_0 n1 Γ n1 x0 0 x1 r2 x3 x4 r5
  := (Jn_step ..).trans (by kernel_rfl)
theorem q51_0_v1_eq (Γ : SemL) (n1 : Nat) (x0 : Int) (x1 : Int) (x2 : Int) (r3 : List (List D)) : q51_0_v1 Γ n1 x0 x1 x2 r3 = bif x0 == 1 then bif x2 == 0 then some (Out.mk true (V.one (X.d
  (D.bool (Int.ofNat (List.length r3) == 0)))) D.junk [] 0) else bif x2 == 1 then some (Out.mk true (V.one (X.d (D.bool (Int.ofNat (List.length r3) == 0)))) D.junk [] 0) else some (Out.mk
  true (V.one (X.d (D.bool false))) D.junk [] 0) else bif x0 == 2 then bif decide (x2 ≥ -2147483648) then bif decide (x2 ≤ 2147483647) then some (Out.mk true (V.one (X.d (D.bool (Int.ofNat
  (List.length r3) == 0)))) D.junk [] 0) else some (Out.mk true (V.one (X.d (D.bool false))) D.junk [] 0) else some (Out.mk true (V.one (X.d (D.bool false))) D.junk [] 0) else bif x0 == 3
  then bif x2 == 0 then r_oB (Γ 72 [V.one (X.nilL 2), V.one (X.d (D.list 3 r3)), V.one (X.fn 51 [])] []) [] fun c1_ => some (Out.mk true (V.one (X.d (D.bool c1_))) D.junk [] 0) else some
  (Out.mk true (V.one (X.d (D.bool false))) D.junk [] 0) else q51_1_v1 Γ n1 x0 x1 x2 r3 := (Jn_step ..).trans (by kernel_rfl)
theorem q28_1_eq (Γ : SemL) (n1 : Nat) (n2 : Nat) (x0 : Int) (r1 : List (List D)) (x2 : Int) (x3 : Int) : q28_1 Γ n1 n2 x0 r1 x2 x3 = l28_0 n1 Γ n2 x0 r1 x2 (IntKind.wrap IntKind.i64 (x3 +
  1)) := (Jn_step ..).trans (by kernel_rfl)
theorem q56_0_eq (Γ : SemL) (n1 : Nat) (n2 : Nat) (x0 : Int) (x1 : Int) (x2 : Int) (x3 : Int) (r4 : List (List D)) : q56_0 Γ n1 n2 x0 x1 x2 x3 r4 = bif decide (0 ≤ x1) && decide (x1 <
  Int.ofNat (List.length r4)) then r_oI (Γ 56 [V.agg [X.d (List.getD (List.getD r4 (Int.toNat x1) []) 0 D.junk), X.d (List.getD (List.getD r4 (Int.toNat x1) []) 1 D.junk), X.d (List.getD
  (List.getD r4 (Int.toNat x1) []) 2 D.junk)], V.one (X.d (D.int IntKind.i64 x0))] []) [] fun i1_ => q56_1 Γ n1 n2 i1_ x1 x2 x3 r4 else none := (Jn_step ..).trans (by kernel_rfl)
theorem q56_2_eq (Γ : SemL) (n1 : Nat) (x0 : Int) : q56_2 Γ n1 x0 = some (Out.mk true (V.one (X.d (D.int IntKind.i64 x0))) D.junk [] 0) := (Jn_step ..).trans (by kernel_rfl)
theorem q72_0_eq (Γ : SemL) (n1 : Nat) (r0 : List (List D)) (r1 : List (List D)) : q72_0 Γ n1 r0 r1 = l72_0 n1 Γ n1 r1 r0 (Int.ofNat (List.length r0)) 0 := (Jn_step ..).trans (by kernel_rfl)
theorem e73_eq (Γ : SemL) (n1 : Nat) (r0 : List (List D)) (x1 : Int) (r2 : List (List D)) : e73 Γ n1 r0 x1 r2 = Option.bind (Γ 87 [V.one (X.d (D.list 3 r0)), V.one (X.fn 74 [X.ptr 0 0])]
  [([Lf.int IntKind.i64, Lf.lst 2], [D.int IntKind.i64 x1, D.list 2 r2])]) fun o1_ => bif true && D.isInt IntKind.i64 (List.getD (List.getD (Out.rows o1_) 0 []) 0 D.junk) then bif true &&
  D.isList 2 (List.getD (List.getD (Out.rows o1_) 0 []) 1 D.junk) then bif Nat.beq (List.length (List.getD (Out.rows o1_) 0 [])) 2 then bif Out.ok o1_ then bif V.isOne (Out.val o1_) then bif
  X.isD (X.cell (Out.val o1_) 0) && D.isInt IntKind.i64 (X.dd (X.cell (Out.val o1_) 0)) then bif Nat.beq (Out.m o1_) 0 && true then some (Out.mk true (V.one (X.d (D.bool (decide (D.num (X.dd
  (X.cell (Out.val o1_) 0)) ≥ 0))))) D.junk [[D.int IntKind.i64 (D.num (List.getD (List.getD (Out.rows o1_) 0 []) 0 D.junk)), D.list 2 (D.rows (List.getD (List.getD (Out.rows o1_) 0 []) 1
  D.junk))]] 0) else none else none else none else some (Out.mk false V.junk (Out.pv o1_) [[D.int IntKind.i64 (D.num (List.getD (List.getD (Out.rows o1_) 0 []) 0 D.junk)), D.list 2 (D.rows
  (List.getD (List.getD (Out.rows o1_) 0 []) 1 D.junk))]] 0) else none else none else none := (run_step ..).trans (by kernel_rfl)
theorem l52_0_eq (n0 : Nat) (Γ : SemL) (n2 : Nat) (x0 : Int) (x1 : Int) (x2 : Int) (r3 : List (List D)) (x4 : Int) (x5 : Int) (r6 : List (List D)) : l52_0 (n0 + 1) Γ n2 x0 x1 x2 r3 x4 x5 r6 =
  bif decide (x1 < x0) then q52_2 Γ n0 n2 x0 x1 x2 r3 x4 x5 r6 else q52_5 Γ n2 := (loop_step ..).trans (by kernel_rfl)
theorem e72_v1_eq (Γ : SemL) (n1 : Nat) (r0 : List (List D)) : e72_v1 Γ n1 r0 = bif Int.ofNat 0 != Int.ofNat (List.length r0) then some (Out.mk true (V.one (X.d (D.bool false))) D.junk [] 0)
  else q72_0_v1 Γ n1 r0 := (run_step ..).trans (by kernel_rfl)
theorem q51_1_v1_eq (Γ : SemL) (n1 : Nat) (x0 : Int) (x1 : Int) (x2 : Int) (r3 : List (List D)) : q51_1_v1 Γ n1 x0 x1 x2 r3 = bif x2 == 0 then bif decide (Int.ofNat (List.length r3) ≤ 32)
  then Option.bind (Γ 73 [V.one (X.d (D.list 3 r3)), V.one (X.fn 74 [X.ptr 0 0])] [([Lf.int IntKind.i64, Lf.lst 2], [D.int IntKind.i64 x0, D.list 2 []])]) fun o1_ => bif true && D.isInt
  IntKind.i64 (List.getD (List.getD (Out.rows o1_) 0 []) 0 D.junk) then bif true && D.isList 2 (List.getD (List.getD (Out.rows o1_) 0 []) 1 D.junk) then bif Nat.beq (List.length (List.getD
  (Out.rows o1_) 0 [])) 2 then bif Out.ok o1_ then bif V.isOne (Out.val o1_) then bif X.isD (X.cell (Out.val o1_) 0) && D.isBool (X.dd (X.cell (Out.val o1_) 0)) then bif Nat.beq (Out.m o1_) 0
  && true then some (Out.mk true (V.one (X.d (D.bool !D.bit (X.dd (X.cell (Out.val o1_) 0))))) D.junk [] 0) else none else none else none else some (Out.mk false V.junk (Out.pv o1_) [] 0)
  else none else none else none else some (Out.mk true (V.one (X.d (D.bool false))) D.junk [] 0) else some (Out.mk true (V.one (X.d (D.bool false))) D.junk [] 0) := (Jn_step ..).trans (by
  kernel_rfl)
theorem q56_1_eq (Γ : SemL) (n1 : Nat) (n2 : Nat) (x0 : Int) (x1 : Int) (x2 : Int) (x3 : Int) (r4 : List (List D)) : q56_1 Γ n1 n2 x0 x1 x2 x3 r4 = l56_0 n1 Γ n2 x0 (IntKind.wrap IntKind.i64
  (x1 + 1)) x2 x3 r4 := (Jn_step ..).trans (by kernel_rfl)
theorem l72_0_eq (n0 : Nat) (Γ : SemL) (n2 : Nat) (r0 : List (List D)) (r1 : List (List D)) (x2 : Int) (x3 : Int) : l72_0 (n0 + 1) Γ n2 r0 r1 x2 x3 = bif decide (x3 < x2) then q72_1 Γ n0 n2
  r0 r1 x2 x3 else q72_3 Γ n2 := (loop_step ..).trans (by kernel_rfl)
theorem e87_eq (Γ : SemL) (n1 : Nat) (r0 : List (List D)) (x1 : Int) (r2 : List (List D)) : e87 Γ n1 r0 x1 r2 = l87_0 n1 Γ n1 x1 r2 r0 (Int.ofNat (List.length r0)) 0 x1 r2 := (run_step
  ..).trans (by kernel_rfl)
theorem q52_2_eq (Γ : SemL) (n1 : Nat) (n2 : Nat) (x0 : Int) (x1 : Int) (x2 : Int) (r3 : List (List D)) (x4 : Int) (x5 : Int) (r6 : List (List D)) : q52_2 Γ n1 n2 x0 x1 x2 r3 x4 x5 r6 = bif
  true && decide (0 < Int.ofNat (List.length r3)) then bif x2 == 3 then bif decide (0 ≤ x1) && decide (x1 < Int.ofNat (List.length r3)) then q52_3 Γ n1 n2 x0 x1 x2 r3 x4 x5 r6 (List.getD
  (List.getD r3 (Int.toNat x1) []) 0 D.junk) (List.getD (List.getD r3 (Int.toNat x1) []) 1 D.junk) else none else q52_3 Γ n1 n2 x0 x1 x2 r3 x4 x5 r6 (List.getD (List.getD r3 0 []) 0 D.junk)
  (List.getD (List.getD r3 0 []) 1 D.junk) else none := (Jn_step ..).trans (by kernel_rfl)
theorem q52_5_eq (Γ : SemL) (n1 : Nat) : q52_5 Γ n1 = some (Out.mk true (V.one (X.d (D.bool true))) D.junk [] 0) := (Jn_step ..).trans (by kernel_rfl)
theorem q72_0_v1_eq (Γ : SemL) (n1 : Nat) (r0 : List (List D)) : q72_0_v1 Γ n1 r0 = l72_0_v1 n1 Γ n1 r0 (Int.ofNat 0) 0 := (Jn_step ..).trans (by kernel_rfl)
theorem e52_v1_eq (Γ : SemL) (n1 : Nat) (x0 : Int) (x1 : Int) (x2 : Int) (r3 : List (List D)) : e52_v1 Γ n1 x0 x1 x2 r3 = bif x1 != x0 then some (Out.mk true (V.one (X.d (D.bool false)))
  D.junk [] 0) else q52_0_v1 Γ n1 (Int.ofNat (List.length r3)) x0 x1 x2 r3 := (run_step ..).trans (by kernel_rfl)
theorem q72_1_eq (Γ : SemL) (n1 : Nat) (n2 : Nat) (r0 : List (List D)) (r1 : List (List D)) (x2 : Int) (x3 : Int) : q72_1 Γ n1 n2 r0 r1 x2 x3 = bif decide (0 ≤ x3) && decide (x3 < Int.ofNat
  (List.length r1)) then bif decide (0 ≤ x3) && decide (x3 < Int.ofNat (List.length r0)) then r_oB (Γ 51 [V.agg [X.d (List.getD (List.getD r1 (Int.toNat x3) []) 0 D.junk), X.d (List.getD
  (List.getD r1 (Int.toNat x3) []) 1 D.junk)], V.agg [X.d (List.getD (List.getD r0 (Int.toNat x3) []) 0 D.junk), X.d (List.getD (List.getD r0 (Int.toNat x3) []) 1 D.junk), X.d (List.getD
  (List.getD r0 (Int.toNat x3) []) 2 D.junk)]] []) [] fun c1_ => bif !c1_ then some (Out.mk true (V.one (X.d (D.bool false))) D.junk [] 0) else q72_2 Γ n1 n2 r0 r1 x2 x3 else none else none
  := (Jn_step ..).trans (by kernel_rfl)
theorem q72_3_eq (Γ : SemL) (n1 : Nat) : q72_3 Γ n1 = some (Out.mk true (V.one (X.d (D.bool true))) D.junk [] 0) := (Jn_step ..).trans (by kernel_rfl)
theorem l87_0_eq (n0 : Nat) (Γ : SemL) (n2 : Nat) (z3 : Int) (z4 : List (List D)) (r0 : List (List D)) (x1 : Int) (x2 : Int) (x3 : Int) (r4 : List (List D)) : l87_0 (n0 + 1) Γ n2 z3 z4 r0 x1
  x2 x3 r4 = bif decide (x2 < x1) then q87_0 Γ n0 n2 z3 z4 r0 x1 x2 x3 r4 else q87_2 Γ n2 z3 z4 x3 r4 := (loop_step ..).trans (by kernel_rfl)
theorem q52_3_eq (Γ : SemL) (n1 : Nat) (n2 : Nat) (x0 : Int) (x1 : Int) (x2 : Int) (r3 : List (List D)) (x4 : Int) (x5 : Int) (r6 : List (List D)) (y7 : D) (y8 : D) : q52_3 Γ n1 n2 x0 x1 x2
  r3 x4 x5 r6 y7 y8 = bif decide (0 ≤ x1) && decide (x1 < Int.ofNat (List.length r6)) then r_oB (Γ 52 [V.agg [X.d y7, X.d y8], V.agg [X.d (List.getD (List.getD r6 (Int.toNat x1) []) 0
  D.junk), X.d (List.getD (List.getD r6 (Int.toNat x1) []) 1 D.junk), X.d (List.getD (List.getD r6 (Int.toNat x1) []) 2 D.junk)]] []) [] fun c1_ => bif !c1_ then some (Out.mk true (V.one (X.d
  (D.bool false))) D.junk [] 0) else q52_4 Γ n1 n2 x0 x1 x2 r3 x4 x5 r6 else none := (Jn_step ..).trans (by kernel_rfl)
theorem l72_0_v1_eq (n0 : Nat) (Γ : SemL) (n2 : Nat) (r0 : List (List D)) (x1 : Int) (x2 : Int) : l72_0_v1 (n0 + 1) Γ n2 r0 x1 x2 = bif decide (x2 < x1) then q72_1_v1 Γ n0 n2 r0 x1 x2 else
  q72_3 Γ n2 := (loop_step ..).trans (by kernel_rfl)
theorem q52_0_v1_eq (Γ : SemL) (n1 : Nat) (x0 : Int) (x1 : Int) (x2 : Int) (x3 : Int) (r4 : List (List D)) : q52_0_v1 Γ n1 x0 x1 x2 x3 r4 = bif x1 == 1 then bif x0 == 0 then bif x3 == 0 then
  some (Out.mk true (V.one (X.d (D.bool true))) D.junk [] 0) else some (Out.mk true (V.one (X.d (D.bool (x3 == 1)))) D.junk [] 0) else some (Out.mk true (V.one (X.d (D.bool false))) D.junk []
  0) else bif x1 == 2 then bif x0 == 0 then bif decide (x3 ≥ -2147483648) then some (Out.mk true (V.one (X.d (D.bool (decide (x3 ≤ 2147483647))))) D.junk [] 0) else some (Out.mk true (V.one
  (X.d (D.bool false))) D.junk [] 0) else some (Out.mk true (V.one (X.d (D.bool false))) D.junk [] 0) else bif x1 == 3 then bif x3 != 0 then some (Out.mk true (V.one (X.d (D.bool false)))
  D.junk [] 0) else bif x0 != Int.ofNat 0 then some (Out.mk true (V.one (X.d (D.bool false))) D.junk [] 0) else q52_1_v1 Γ n1 x0 x1 x2 x3 r4 else bif x3 != 0 then some (Out.mk true (V.one
  (X.d (D.bool false))) D.junk [] 0) else bif decide (x0 > 32) then some (Out.mk true (V.one (X.d (D.bool false))) D.junk [] 0) else q52_1_v1 Γ n1 x0 x1 x2 x3 r4 := (Jn_step ..).trans (by
  kernel_rfl)
theorem q72_2_eq (Γ : SemL) (n1 : Nat) (n2 : Nat) (r0 : List (List D)) (r1 : List (List D)) (x2 : Int) (x3 : Int) : q72_2 Γ n1 n2 r0 r1 x2 x3 = l72_0 n1 Γ n2 r0 r1 x2 (IntKind.wrap
  IntKind.i64 (x3 + 1)) := (Jn_step ..).trans (by kernel_rfl)
theorem q87_0_eq (Γ : SemL) (n1 : Nat) (n2 : Nat) (z3 : Int) (z4 : List (List D)) (r0 : List (List D)) (x1 : Int) (x2 : Int) (x3 : Int) (r4 : List (List D)) : q87_0 Γ n1 n2 z3 z4 r0 x1 x2 x3
  r4 = bif decide (0 ≤ x2) && decide (x2 < Int.ofNat (List.length r0)) then Option.bind (Γ 74 [V.agg [X.d (List.getD (List.getD r0 (Int.toNat x2) []) 0 D.junk), X.d (List.getD (List.getD r0
  (Int.toNat x2) []) 1 D.junk), X.d (List.getD (List.getD r0 (Int.toNat x2) []) 2 D.junk)], V.one (X.ptr 0 0)] [([Lf.int IntKind.i64, Lf.lst 2], [D.int IntKind.i64 x3, D.list 2 r4])]) fun o1_
  => bif true && D.isInt IntKind.i64 (List.getD (List.getD (Out.rows o1_) 0 []) 0 D.junk) then bif true && D.isList 2 (List.getD (List.getD (Out.rows o1_) 0 []) 1 D.junk) then bif Nat.beq
  (List.length (List.getD (Out.rows o1_) 0 [])) 2 then bif Out.ok o1_ then bif V.isOne (Out.val o1_) then bif X.isD (X.cell (Out.val o1_) 0) && D.isBool (X.dd (X.cell (Out.val o1_) 0)) then
  bif Nat.beq (Out.m o1_) 0 && true then bif D.bit (X.dd (X.cell (Out.val o1_) 0)) then some (Out.mk true (V.one (X.d (D.int IntKind.i64 x2))) D.junk [[D.int IntKind.i64 (D.num (List.getD
  (List.getD (Out.rows o1_) 0 []) 0 D.junk)), D.list 2 (D.rows (List.getD (List.getD (Out.rows o1_) 0 []) 1 D.junk))]] 0) else q87_1 Γ n1 n2 z3 z4 r0 x1 x2 (D.num (List.getD (List.getD
  (Out.rows o1_) 0 []) 0 D.junk)) (D.rows (List.getD (List.getD (Out.rows o1_) 0 []) 1 D.junk)) else none else none else none else some (Out.mk false V.junk (Out.pv o1_) [[D.int IntKind.i64
  (D.num (List.getD (List.getD (Out.rows o1_) 0 []) 0 D.junk)), D.list 2 (D.rows (List.getD (List.getD (Out.rows o1_) 0 []) 1 D.junk))]] 0) else none else none else none else none := (Jn_step
  ..).trans (by kernel_rfl)
theorem q87_2_eq (Γ : SemL) (n1 : Nat) (z2 : Int) (z3 : List (List D)) (x0 : Int) (r1 : List (List D)) : q87_2 Γ n1 z2 z3 x0 r1 = some (Out.mk true (V.one (X.d (D.int IntKind.i64 (-1))))
  D.junk [[D.int IntKind.i64 x0, D.list 2 r1]] 0) := (Jn_step ..).trans (by kernel_rfl)
theorem q52_4_eq (Γ : SemL) (n1 : Nat) (n2 : Nat) (x0 : Int) (x1 : Int) (x2 : Int) (r3 : List (List D)) (x4 : Int) (x5 : Int) (r6 : List (List D)) : q52_4 Γ n1 n2 x0 x1 x2 r3 x4 x5 r6 = l52_0
  n1 Γ n2 x0 (IntKind.wrap IntKind.i64 (x1 + 1)) x2 r3 x4 x5 r6 := (Jn_step ..).trans (by kernel_rfl)
theorem q72_1_v1_eq (Γ : SemL) (n1 : Nat) (n2 : Nat) (r0 : List (List D)) (x1 : Int) (x2 : Int) : q72_1_v1 Γ n1 n2 r0 x1 x2 = bif decide (0 ≤ x2) && decide (x2 < Int.ofNat 0) then bif decide
  (0 ≤ x2) && decide (x2 < Int.ofNat (List.length r0)) then r_oB (Γ 51 [V.agg [X.d D.junk, X.d D.junk], V.agg [X.d (List.getD (List.getD r0 (Int.toNat x2) []) 0 D.junk), X.d (List.getD
  (List.getD r0 (Int.toNat x2) []) 1 D.junk), X.d (List.getD (List.getD r0 (Int.toNat x2) []) 2 D.junk)]] []) [] fun c1_ => bif !c1_ then some (Out.mk true (V.one (X.d (D.bool false))) D.junk
  [] 0) else q72_2_v1 Γ n1 n2 r0 x1 x2 else none else none := (Jn_step ..).trans (by kernel_rfl)
theorem q52_1_v1_eq (Γ : SemL) (n1 : Nat) (x0 : Int) (x1 : Int) (x2 : Int) (x3 : Int) (r4 : List (List D)) : q52_1_v1 Γ n1 x0 x1 x2 x3 r4 = l52_0_v1 n1 Γ n1 x0 0 x1 x2 x3 r4 := (Jn_step
  ..).trans (by kernel_rfl)
theorem e74_eq (Γ : SemL) (n1 : Nat) (x0 : Int) (x1 : Int) (r2 : List (List D)) (x3 : Int) (r4 : List (List D)) : e74 Γ n1 x0 x1 r2 x3 r4 = bif true && decide (0 < Int.ofNat (List.length r4))
  then r_oB (Γ 51 [V.agg [X.d (List.getD (List.getD r4 0 []) 0 D.junk), X.d (List.getD (List.getD r4 0 []) 1 D.junk)], V.agg [X.d (D.int IntKind.i64 x0), X.d (D.int IntKind.i64 x1), X.d
  (D.list 3 r2)]] []) [[D.int IntKind.i64 x3, D.list 2 r4]] fun c1_ => some (Out.mk true (V.one (X.d (D.bool !c1_))) D.junk [[D.int IntKind.i64 x3, D.list 2 r4]] 0) else none := (run_step
  ..).trans (by kernel_rfl)
theorem q87_1_eq (Γ : SemL) (n1 : Nat) (n2 : Nat) (z3 : Int) (z4 : List (List D)) (r0 : List (List D)) (x1 : Int) (x2 : Int) (x3 : Int) (r4 : List (List D)) : q87_1 Γ n1 n2 z3 z4 r0 x1 x2 x3
  r4 = l87_0 n1 Γ n2 z3 z4 r0 x1 (IntKind.wrap IntKind.i64 (x2 + 1)) x3 r4 := (Jn_step ..).trans (by kernel_rfl)
theorem e51_v2_eq (Γ : SemL) (n1 : Nat) (x0 : Int) (x1 : Int) (r2 : List (List D)) : e51_v2 Γ n1 x0 x1 r2 = none := (run_step ..).trans (by kernel_rfl)
theorem q72_2_v1_eq (Γ : SemL) (n1 : Nat) (n2 : Nat) (r0 : List (List D)) (x1 : Int) (x2 : Int) : q72_2_v1 Γ n1 n2 r0 x1 x2 = l72_0_v1 n1 Γ n2 r0 x1 (IntKind.wrap IntKind.i64 (x2 + 1)) :=
  (Jn_step ..).trans (by kernel_rfl)
theorem l52_0_v1_eq (n0 : Nat) (Γ : SemL) (n2 : Nat) (x0 : Int) (x1 : Int) (x2 : Int) (x3 : Int) (x4 : Int) (r5 : List (List D)) : l52_0_v1 (n0 + 1) Γ n2 x0 x1 x2 x3 x4 r5 = bif decide (x1 <
  x0) then q52_2_v1 Γ n0 n2 x0 x1 x2 x3 x4 r5 else q52_5 Γ n2 := (loop_step ..).trans (by kernel_rfl)
theorem q52_2_v1_eq (Γ : SemL) (n1 : Nat) (n2 : Nat) (x0 : Int) (x1 : Int) (x2 : Int) (x3 : Int) (x4 : Int) (r5 : List (List D)) : q52_2_v1 Γ n1 n2 x0 x1 x2 x3 x4 r5 = none := (Jn_step
  ..).trans (by kernel_rfl)
theorem call24 (k : Nat) (x0 : Int) (r1 : List (List D)) (x2 : Int) (x3 : Int) (r4 : List (List D)) : Ak (k + 1) 24 [V.agg [X.d (D.int IntKind.i64 x0), X.d (D.list 2 r1)], V.agg [X.d (D.int
  IntKind.i64 x2), X.d (D.int IntKind.i64 x3), X.d (D.list 3 r4)]] [] = e24 (Ak k) k x0 r1 x2 x3 r4 := call_step (by kernel_rfl) rfl
theorem call25 (k : Nat) (x0 : Int) (r1 : List (List D)) (x2 : Int) (x3 : Int) (r4 : List (List D)) : Ak (k + 1) 25 [V.agg [X.d (D.int IntKind.i64 x0), X.d (D.list 2 r1)], V.agg [X.d (D.int
  IntKind.i64 x2), X.d (D.int IntKind.i64 x3), X.d (D.list 3 r4)]] [] = e25 (Ak k) k x0 r1 x2 x3 r4 := call_step (by kernel_rfl) rfl
theorem call28 (k : Nat) (x0 : Int) (x1 : Int) (r2 : List (List D)) : Ak (k + 1) 28 [V.agg [X.d (D.int IntKind.i64 x0), X.d (D.int IntKind.i64 x1), X.d (D.list 3 r2)]] [] = e28 (Ak k) k x0 x1
  r2 := call_step (by kernel_rfl) rfl
theorem call29 (k : Nat) (x0 : Int) (x1 : Int) (r2 : List (List D)) : Ak (k + 1) 29 [V.agg [X.d (D.int IntKind.i64 x0), X.d (D.int IntKind.i64 x1), X.d (D.list 3 r2)]] [] = e29 (Ak k) k x0 x1
  r2 := call_step (by kernel_rfl) rfl
theorem call51 (k : Nat) (x0 : Int) (r1 : List (List D)) (x2 : Int) (x3 : Int) (r4 : List (List D)) : Ak (k + 1) 51 [V.agg [X.d (D.int IntKind.i64 x0), X.d (D.list 2 r1)], V.agg [X.d (D.int
  IntKind.i64 x2), X.d (D.int IntKind.i64 x3), X.d (D.list 3 r4)]] [] = e51 (Ak k) k x0 r1 x2 x3 r4 := call_step (by kernel_rfl) rfl
theorem call52 (k : Nat) (x0 : Int) (r1 : List (List D)) (x2 : Int) (x3 : Int) (r4 : List (List D)) : Ak (k + 1) 52 [V.agg [X.d (D.int IntKind.i64 x0), X.d (D.list 2 r1)], V.agg [X.d (D.int
  IntKind.i64 x2), X.d (D.int IntKind.i64 x3), X.d (D.list 3 r4)]] [] = e52 (Ak k) k x0 r1 x2 x3 r4 := call_step (by kernel_rfl) rfl
theorem call56 (k : Nat) (x0 : Int) (x1 : Int) (r2 : List (List D)) (x3 : Int) : Ak (k + 1) 56 [V.agg [X.d (D.int IntKind.i64 x0), X.d (D.int IntKind.i64 x1), X.d (D.list 3 r2)], V.one (X.d
  (D.int IntKind.i64 x3))] [] = e56 (Ak k) k x0 x1 r2 x3 := call_step (by kernel_rfl) rfl
theorem call51_v1 (k : Nat) (x0 : Int) (x1 : Int) (x2 : Int) (r3 : List (List D)) : Ak (k + 1) 51 [V.agg [X.d (D.int IntKind.i64 x0), X.nilL 2], V.agg [X.d (D.int IntKind.i64 x1), X.d (D.int
  IntKind.i64 x2), X.d (D.list 3 r3)]] [] = e51_v1 (Ak k) k x0 x1 x2 r3 := call_step (by kernel_rfl) rfl
theorem call72 (k : Nat) (r0 : List (List D)) (r1 : List (List D)) : Ak (k + 1) 72 [V.one (X.d (D.list 2 r0)), V.one (X.d (D.list 3 r1)), V.one (X.fn 51 [])] [] = e72 (Ak k) k r0 r1 :=
  call_step (by kernel_rfl) rfl
theorem call73 (k : Nat) (r0 : List (List D)) (x1 : Int) (r2 : List (List D)) : Ak (k + 1) 73 [V.one (X.d (D.list 3 r0)), V.one (X.fn 74 [X.ptr 0 0])] [([Lf.int IntKind.i64, Lf.lst 2], [D.int
  IntKind.i64 x1, D.list 2 r2])] = e73 (Ak k) k r0 x1 r2 := call_step (by kernel_rfl) rfl
theorem call72_v1 (k : Nat) (r0 : List (List D)) : Ak (k + 1) 72 [V.one (X.nilL 2), V.one (X.d (D.list 3 r0)), V.one (X.fn 51 [])] [] = e72_v1 (Ak k) k r0 := call_step (by kernel_rfl) rfl
theorem call87 (k : Nat) (r0 : List (List D)) (x1 : Int) (r2 : List (List D)) : Ak (k + 1) 87 [V.one (X.d (D.list 3 r0)), V.one (X.fn 74 [X.ptr 0 0])] [([Lf.int IntKind.i64, Lf.lst 2], [D.int
  IntKind.i64 x1, D.list 2 r2])] = e87 (Ak k) k r0 x1 r2 := call_step (by kernel_rfl) rfl
theorem call52_v1 (k : Nat) (x0 : Int) (x1 : Int) (x2 : Int) (r3 : List (List D)) : Ak (k + 1) 52 [V.agg [X.d (D.int IntKind.i64 x0), X.nilL 2], V.agg [X.d (D.int IntKind.i64 x1), X.d (D.int
  IntKind.i64 x2), X.d (D.list 3 r3)]] [] = e52_v1 (Ak k) k x0 x1 x2 r3 := call_step (by kernel_rfl) rfl
theorem call74 (k : Nat) (x0 : Int) (x1 : Int) (r2 : List (List D)) (x3 : Int) (r4 : List (List D)) : Ak (k + 1) 74 [V.agg [X.d (D.int IntKind.i64 x0), X.d (D.int IntKind.i64 x1), X.d (D.list
  3 r2)], V.one (X.ptr 0 0)] [([Lf.int IntKind.i64, Lf.lst 2], [D.int IntKind.i64 x3, D.list 2 r4])] = e74 (Ak k) k x0 x1 r2 x3 r4 := call_step (by kernel_rfl) rfl
theorem call51_v2 (k : Nat) (x0 : Int) (x1 : Int) (r2 : List (List D)) : Ak (k + 1) 51 [V.agg [X.d D.junk, X.d D.junk], V.agg [X.d (D.int IntKind.i64 x0), X.d (D.int IntKind.i64 x1), X.d
  (D.list 3 r2)]] [] = e51_v2 (Ak k) k x0 x1 r2 := call_step (by kernel_rfl) rfl
end Go.Proofs.YtkpdofiflhjahaaDoor.Ps
