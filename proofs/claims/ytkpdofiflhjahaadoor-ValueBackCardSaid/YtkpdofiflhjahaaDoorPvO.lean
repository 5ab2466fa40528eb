/- What the pieces of the functions do, as functions of their data. Printed by pack3.py. -/
import Derived.Test.YtkpdofiflhjahaaDoorPv0
namespace Go.Proofs.YtkpdofiflhjahaaDoor.Ps
set_option maxHeartbeats 0
set_option maxRecDepth 100000
set_option linter.unusedVariables false
open Go Go.RowKit
noncomputable def e30 (Γ : SemL) (n1 : Nat) (x0 : Int) (x1 : Int) (r2 : List (List D)) (x3 : Int) (x4 : Int) (r5 : List (List D)) : Option Out := runF Γ shp (Sh.owns (shp 30)) sf30 n1 [V.agg
  [X.d (D.int IntKind.i64 x0), X.d (D.int IntKind.i64 x1), X.d (D.list 3 r2)], V.agg [X.d (D.int IntKind.i64 x3), X.d (D.int IntKind.i64 x4), X.d (D.list 3 r5)]] []
noncomputable def e31 (Γ : SemL) (n1 : Nat) (x0 : Int) (x1 : Int) (r2 : List (List D)) (x3 : Int) (x4 : Int) (r5 : List (List D)) : Option Out := runF Γ shp (Sh.owns (shp 31)) sf31 n1 [V.agg
  [X.d (D.int IntKind.i64 x0), X.d (D.int IntKind.i64 x1), X.d (D.list 3 r2)], V.agg [X.d (D.int IntKind.i64 x3), X.d (D.int IntKind.i64 x4), X.d (D.list 3 r5)]] []
noncomputable def e32 (Γ : SemL) (n1 : Nat) (x0 : Int) (x1 : Int) (r2 : List (List D)) (x3 : Int) (x4 : Int) (r5 : List (List D)) : Option Out := runF Γ shp (Sh.owns (shp 32)) sf32 n1 [V.agg
  [X.d (D.int IntKind.i64 x0), X.d (D.int IntKind.i64 x1), X.d (D.list 3 r2)], V.agg [X.d (D.int IntKind.i64 x3), X.d (D.int IntKind.i64 x4), X.d (D.list 3 r5)]] []
noncomputable def e33 (Γ : SemL) (n1 : Nat) (x0 : Int) (x1 : Int) (r2 : List (List D)) (x3 : Int) (x4 : Int) (r5 : List (List D)) : Option Out := runF Γ shp (Sh.owns (shp 33)) sf33 n1 [V.agg
  [X.d (D.int IntKind.i64 x0), X.d (D.int IntKind.i64 x1), X.d (D.list 3 r2)], V.agg [X.d (D.int IntKind.i64 x3), X.d (D.int IntKind.i64 x4), X.d (D.list 3 r5)]] []
noncomputable def e38 (Γ : SemL) (n1 : Nat) (x0 : Int) (x1 : Int) (r2 : List (List D)) (x3 : Int) (x4 : Int) (r5 : List (List D)) : Option Out := runF Γ shp (Sh.owns (shp 38)) sf38 n1 [V.agg
  [X.d (D.int IntKind.i64 x0), X.d (D.int IntKind.i64 x1), X.d (D.list 3 r2)], V.agg [X.d (D.int IntKind.i64 x3), X.d (D.int IntKind.i64 x4), X.d (D.list 3 r5)]] []
noncomputable def e38_v1 (Γ : SemL) (n1 : Nat) (x0 : Int) (x1 : Int) (r2 : List (List D)) (x3 : Int) (x4 : Int) : Option Out := runF Γ shp (Sh.owns (shp 38)) sf38 n1 [V.agg [X.d (D.int
  IntKind.i64 x0), X.d (D.int IntKind.i64 x1), X.d (D.list 3 r2)], V.agg [X.d (D.int IntKind.i64 x3), X.d (D.int IntKind.i64 x4), X.nilL 3]] []
noncomputable def e40 (Γ : SemL) (n1 : Nat) (r0 : List (List D)) : Option Out := runF Γ shp (Sh.owns (shp 40)) sf40 n1 [V.one (X.d (D.list 3 r0))] []
noncomputable def e57 (Γ : SemL) (n1 : Nat) (x0 : Int) (x1 : Int) : Option Out := runF Γ shp (Sh.owns (shp 57)) sf57 n1 [V.one (X.d (D.int IntKind.i64 x0)), V.one (X.d (D.int IntKind.i64
  x1))] []
noncomputable def q30_0 (Γ : SemL) (n1 : Nat) (x0 : Int) (x1 : Int) (x2 : Int) (r3 : List (List D)) (x4 : Int) (x5 : Int) (r6 : List (List D)) : Option Out := Jn Γ shp n1 j30_0 (St.mk [(2,
  V.one (X.ptr 0 0)), (3, V.one (X.ptr 1 0)), (5, V.one (X.d (D.int IntKind.i64 x0)))] [(0, Blk.mk [Lf.int IntKind.i64, Lf.int IntKind.i64, Lf.lst 3] [X.d (D.int IntKind.i64 x1), X.d (D.int
  IntKind.i64 x2), X.d (D.list 3 r3)]), (1, Blk.mk [Lf.int IntKind.i64, Lf.int IntKind.i64, Lf.lst 3] [X.d (D.int IntKind.i64 x4), X.d (D.int IntKind.i64 x5), X.d (D.list 3 r6)])] [] 2 0 0)
  (finK (Sh.owns (shp 30)) (SFunc.results sf30) 0)
noncomputable def e59 (Γ : SemL) (n1 : Nat) (x0 : Int) (x1 : Int) : Option Out := runF Γ shp (Sh.owns (shp 59)) sf59 n1 [V.one (X.d (D.int IntKind.i64 x0)), V.one (X.d (D.int IntKind.i64
  x1))] []
noncomputable def q31_0 (Γ : SemL) (n1 : Nat) (x0 : Int) (x1 : Int) (x2 : Int) (r3 : List (List D)) (x4 : Int) (x5 : Int) (r6 : List (List D)) : Option Out := Jn Γ shp n1 j31_0 (St.mk [(2,
  V.one (X.ptr 0 0)), (3, V.one (X.ptr 1 0)), (5, V.one (X.d (D.int IntKind.i64 x0)))] [(0, Blk.mk [Lf.int IntKind.i64, Lf.int IntKind.i64, Lf.lst 3] [X.d (D.int IntKind.i64 x1), X.d (D.int
  IntKind.i64 x2), X.d (D.list 3 r3)]), (1, Blk.mk [Lf.int IntKind.i64, Lf.int IntKind.i64, Lf.lst 3] [X.d (D.int IntKind.i64 x4), X.d (D.int IntKind.i64 x5), X.d (D.list 3 r6)])] [] 2 0 0)
  (finK (Sh.owns (shp 31)) (SFunc.results sf31) 0)
noncomputable def q38_0 (Γ : SemL) (n1 : Nat) (x0 : Int) (x1 : Int) (r2 : List (List D)) (x3 : Int) (x4 : Int) (r5 : List (List D)) : Option Out := Jn Γ shp n1 j38_0 (St.mk [(2, V.one (X.ptr
  0 0)), (3, V.one (X.ptr 1 0))] [(0, Blk.mk [Lf.int IntKind.i64, Lf.int IntKind.i64, Lf.lst 3] [X.d (D.int IntKind.i64 x0), X.d (D.int IntKind.i64 x1), X.d (D.list 3 r2)]), (1, Blk.mk
  [Lf.int IntKind.i64, Lf.int IntKind.i64, Lf.lst 3] [X.d (D.int IntKind.i64 x3), X.d (D.int IntKind.i64 x4), X.d (D.list 3 r5)])] [] 2 0 0) (finK (Sh.owns (shp 38)) (SFunc.results sf38) 0)
noncomputable def q38_0_v1 (Γ : SemL) (n1 : Nat) (x0 : Int) (x1 : Int) (r2 : List (List D)) (x3 : Int) (x4 : Int) : Option Out := Jn Γ shp n1 j38_0 (St.mk [(2, V.one (X.ptr 0 0)), (3, V.one
  (X.ptr 1 0))] [(0, Blk.mk [Lf.int IntKind.i64, Lf.int IntKind.i64, Lf.lst 3] [X.d (D.int IntKind.i64 x0), X.d (D.int IntKind.i64 x1), X.d (D.list 3 r2)]), (1, Blk.mk [Lf.int IntKind.i64,
  Lf.int IntKind.i64, Lf.lst 3] [X.d (D.int IntKind.i64 x3), X.d (D.int IntKind.i64 x4), X.nilL 3])] [] 2 0 0) (finK (Sh.owns (shp 38)) (SFunc.results sf38) 0)
noncomputable def e39 (Γ : SemL) (n1 : Nat) (x0 : Int) (x1 : Int) (r2 : List (List D)) : Option Out := runF Γ shp (Sh.owns (shp 39)) sf39 n1 [V.agg [X.d (D.int IntKind.i64 x0), X.d (D.int
  IntKind.i64 x1), X.d (D.list 3 r2)]] []
noncomputable def e77 (Γ : SemL) (n1 : Nat) (x0 : Int) : Option Out := runF Γ shp (Sh.owns (shp 77)) sf77 n1 [V.one (X.d (D.int IntKind.i64 x0))] []
noncomputable def q57_0 (Γ : SemL) (n1 : Nat) : Option Out := Jn Γ shp n1 j57_0 (St.mk [] [] [] 0 0 0) (kSeq (some [0, 1, 6]) (fun s K => Jn Γ shp n1 j57_1 s K) (finK (Sh.owns (shp 57))
  (SFunc.results sf57) 0))
noncomputable def q57_1 (Γ : SemL) (n1 : Nat) (x0 : Int) (x1 : Int) (b2 : Bool) : Option Out := Jn Γ shp n1 j57_1 (St.mk [(0, V.one (X.d (D.int IntKind.i64 x0))), (1, V.one (X.d (D.int
  IntKind.i64 x1))), (6, V.one (X.d (D.bool b2)))] [] [] 0 0 0) (finK (Sh.owns (shp 57)) (SFunc.results sf57) 0)
noncomputable def e58 (Γ : SemL) (n1 : Nat) (r0 : List (List D)) (r1 : List (List D)) : Option Out := runF Γ shp (Sh.owns (shp 58)) sf58 n1 [V.one (X.d (D.list 3 r0)), V.one (X.d (D.list 3
  r1)), V.one (X.fn 30 [])] []
noncomputable def q30_1 (Γ : SemL) (n1 : Nat) (x0 : Int) : Option Out := Jn Γ shp n1 j30_1 (St.mk [(5, V.one (X.d (D.int IntKind.i64 x0)))] [] [] 0 0 0) (finK (Sh.owns (shp 30))
  (SFunc.results sf30) 0)
noncomputable def q59_0 (Γ : SemL) (n1 : Nat) : Option Out := Jn Γ shp n1 j59_0 (St.mk [] [] [] 0 0 0) (finK (Sh.owns (shp 59)) (SFunc.results sf59) 0)
noncomputable def l31_0 (n0 : Nat) (Γ : SemL) (n2 : Nat) (x0 : Int) (x1 : Int) (x2 : Int) (x3 : Int) (r4 : List (List D)) (x5 : Int) (x6 : Int) (r7 : List (List D)) : Option Out := loopK Γ
  shp n0 [2, 3, 5, 6] lb31_0 (St.mk [(2, V.one (X.ptr 0 0)), (3, V.one (X.ptr 1 0)), (5, V.one (X.d (D.int IntKind.i64 x0))), (6, V.one (X.d (D.int IntKind.i64 x1)))] [(0, Blk.mk [Lf.int
  IntKind.i64, Lf.int IntKind.i64, Lf.lst 3] [X.d (D.int IntKind.i64 x2), X.d (D.int IntKind.i64 x3), X.d (D.list 3 r4)]), (1, Blk.mk [Lf.int IntKind.i64, Lf.int IntKind.i64, Lf.lst 3] [X.d
  (D.int IntKind.i64 x5), X.d (D.int IntKind.i64 x6), X.d (D.list 3 r7)])] [] 2 0 0) (kBlk 0 (kSeq (some [2, 3, 5]) (fun s K => Jn Γ shp n2 j31_3 s K) (finK (Sh.owns (shp 31)) (SFunc.results
  sf31) 0)))
noncomputable def l38_0 (n0 : Nat) (Γ : SemL) (n2 : Nat) (x0 : Int) (x1 : Int) (x2 : Int) (r3 : List (List D)) (x4 : Int) (x5 : Int) (r6 : List (List D)) : Option Out := loopK Γ shp n0 [2, 3,
  5] lb38_0 (St.mk [(2, V.one (X.ptr 0 0)), (3, V.one (X.ptr 1 0)), (5, V.one (X.d (D.int IntKind.i64 x0)))] [(0, Blk.mk [Lf.int IntKind.i64, Lf.int IntKind.i64, Lf.lst 3] [X.d (D.int
  IntKind.i64 x1), X.d (D.int IntKind.i64 x2), X.d (D.list 3 r3)]), (1, Blk.mk [Lf.int IntKind.i64, Lf.int IntKind.i64, Lf.lst 3] [X.d (D.int IntKind.i64 x4), X.d (D.int IntKind.i64 x5), X.d
  (D.list 3 r6)])] [] 2 0 0) (kBlk 0 (kSeq (some []) (fun s K => Jn Γ shp n2 j38_3 s K) (finK (Sh.owns (shp 38)) (SFunc.results sf38) 0)))
noncomputable def l38_0_v1 (n0 : Nat) (Γ : SemL) (n2 : Nat) (x0 : Int) (x1 : Int) (x2 : Int) (r3 : List (List D)) (x4 : Int) (x5 : Int) : Option Out := loopK Γ shp n0 [2, 3, 5] lb38_0 (St.mk
  [(2, V.one (X.ptr 0 0)), (3, V.one (X.ptr 1 0)), (5, V.one (X.d (D.int IntKind.i64 x0)))] [(0, Blk.mk [Lf.int IntKind.i64, Lf.int IntKind.i64, Lf.lst 3] [X.d (D.int IntKind.i64 x1), X.d
  (D.int IntKind.i64 x2), X.d (D.list 3 r3)]), (1, Blk.mk [Lf.int IntKind.i64, Lf.int IntKind.i64, Lf.lst 3] [X.d (D.int IntKind.i64 x4), X.d (D.int IntKind.i64 x5), X.nilL 3])] [] 2 0 0)
  (kBlk 0 (kSeq (some []) (fun s K => Jn Γ shp n2 j38_3 s K) (finK (Sh.owns (shp 38)) (SFunc.results sf38) 0)))
noncomputable def q39_0 (Γ : SemL) (n1 : Nat) (x0 : Int) (x1 : Int) (r2 : List (List D)) : Option Out := Jn Γ shp n1 j39_0 (St.mk [(1, V.one (X.ptr 0 0))] [(0, Blk.mk [Lf.int IntKind.i64,
  Lf.int IntKind.i64, Lf.lst 3] [X.d (D.int IntKind.i64 x0), X.d (D.int IntKind.i64 x1), X.d (D.list 3 r2)])] [] 1 0 0) (finK (Sh.owns (shp 39)) (SFunc.results sf39) 0)
noncomputable def q57_2 (Γ : SemL) (n1 : Nat) (x0 : Int) (x1 : Int) : Option Out := Jn Γ shp n1 j57_2 (St.mk [(0, V.one (X.d (D.int IntKind.i64 x0))), (1, V.one (X.d (D.int IntKind.i64 x1)))]
  [] [] 0 0 0) (finK (Sh.owns (shp 57)) (SFunc.results sf57) 0)
noncomputable def l58_0 (n0 : Nat) (Γ : SemL) (n2 : Nat) (r0 : List (List D)) (r1 : List (List D)) (r2 : List (List D)) (x3 : Int) (x4 : Int) : Option Out := loopK Γ shp n0 [0, 1, 2, 11, 12,
  13] lb58_0 (St.mk [(0, V.one (X.d (D.list 3 r0))), (1, V.one (X.d (D.list 3 r1))), (2, V.one (X.fn 30 [])), (11, V.one (X.d (D.list 3 r2))), (12, V.one (X.d (D.int IntKind.i64 x3))), (13,
  V.one (X.d (D.int IntKind.i64 x4)))] [] [] 0 0 0) (kBlk 0 (kSeq (some [0, 1]) (fun s K => Jn Γ shp n2 j58_3 s K) (finK (Sh.owns (shp 58)) (SFunc.results sf58) 0)))
noncomputable def q31_1 (Γ : SemL) (n1 : Nat) (n2 : Nat) (x0 : Int) (x1 : Int) (x2 : Int) (r3 : List (List D)) (x4 : Int) (x5 : Int) (r6 : List (List D)) : Option Out := Jn Γ shp n1 j31_1
  (St.mk [(2, V.one (X.ptr 0 0)), (3, V.one (X.ptr 1 0)), (6, V.one (X.d (D.int IntKind.i64 x0)))] [(0, Blk.mk [Lf.int IntKind.i64, Lf.int IntKind.i64, Lf.lst 3] [X.d (D.int IntKind.i64 x1),
  X.d (D.int IntKind.i64 x2), X.d (D.list 3 r3)]), (1, Blk.mk [Lf.int IntKind.i64, Lf.int IntKind.i64, Lf.lst 3] [X.d (D.int IntKind.i64 x4), X.d (D.int IntKind.i64 x5), X.d (D.list 3 r6)])]
  [] 2 0 0) (kLoop (loopK Γ shp n1) [2, 3, 5, 6] lb31_0 (kBlk 0 (kSeq (some [2, 3, 5]) (fun s K => Jn Γ shp n2 j31_3 s K) (finK (Sh.owns (shp 31)) (SFunc.results sf31) 0))))
noncomputable def q31_3 (Γ : SemL) (n1 : Nat) (x0 : Int) (x1 : Int) (x2 : Int) (r3 : List (List D)) (x4 : Int) (x5 : Int) (r6 : List (List D)) : Option Out := Jn Γ shp n1 j31_3 (St.mk [(2,
  V.one (X.ptr 0 0)), (3, V.one (X.ptr 1 0)), (5, V.one (X.d (D.int IntKind.i64 x0)))] [(0, Blk.mk [Lf.int IntKind.i64, Lf.int IntKind.i64, Lf.lst 3] [X.d (D.int IntKind.i64 x1), X.d (D.int
  IntKind.i64 x2), X.d (D.list 3 r3)]), (1, Blk.mk [Lf.int IntKind.i64, Lf.int IntKind.i64, Lf.lst 3] [X.d (D.int IntKind.i64 x4), X.d (D.int IntKind.i64 x5), X.d (D.list 3 r6)])] [] 2 0 0)
  (finK (Sh.owns (shp 31)) (SFunc.results sf31) 0)
noncomputable def q38_1 (Γ : SemL) (n1 : Nat) (n2 : Nat) (x0 : Int) (x1 : Int) (x2 : Int) (r3 : List (List D)) (x4 : Int) (x5 : Int) (r6 : List (List D)) : Option Out := Jn Γ shp n1 j38_1
  (St.mk [(2, V.one (X.ptr 0 0)), (3, V.one (X.ptr 1 0)), (5, V.one (X.d (D.int IntKind.i64 x0)))] [(0, Blk.mk [Lf.int IntKind.i64, Lf.int IntKind.i64, Lf.lst 3] [X.d (D.int IntKind.i64 x1),
  X.d (D.int IntKind.i64 x2), X.d (D.list 3 r3)]), (1, Blk.mk [Lf.int IntKind.i64, Lf.int IntKind.i64, Lf.lst 3] [X.d (D.int IntKind.i64 x4), X.d (D.int IntKind.i64 x5), X.d (D.list 3 r6)])]
  [] 2 0 0) (kLoop (loopK Γ shp n1) [2, 3, 5] lb38_0 (kBlk 0 (kSeq (some []) (fun s K => Jn Γ shp n2 j38_3 s K) (finK (Sh.owns (shp 38)) (SFunc.results sf38) 0))))
noncomputable def q38_3 (Γ : SemL) (n1 : Nat) : Option Out := Jn Γ shp n1 j38_3 (St.mk [] [] [] 0 0 0) (finK (Sh.owns (shp 38)) (SFunc.results sf38) 0)
noncomputable def q38_1_v1 (Γ : SemL) (n1 : Nat) (n2 : Nat) (x0 : Int) (x1 : Int) (x2 : Int) (r3 : List (List D)) (x4 : Int) (x5 : Int) : Option Out := Jn Γ shp n1 j38_1 (St.mk [(2, V.one
  (X.ptr 0 0)), (3, V.one (X.ptr 1 0)), (5, V.one (X.d (D.int IntKind.i64 x0)))] [(0, Blk.mk [Lf.int IntKind.i64, Lf.int IntKind.i64, Lf.lst 3] [X.d (D.int IntKind.i64 x1), X.d (D.int
  IntKind.i64 x2), X.d (D.list 3 r3)]), (1, Blk.mk [Lf.int IntKind.i64, Lf.int IntKind.i64, Lf.lst 3] [X.d (D.int IntKind.i64 x4), X.d (D.int IntKind.i64 x5), X.nilL 3])] [] 2 0 0) (kLoop
  (loopK Γ shp n1) [2, 3, 5] lb38_0 (kBlk 0 (kSeq (some []) (fun s K => Jn Γ shp n2 j38_3 s K) (finK (Sh.owns (shp 38)) (SFunc.results sf38) 0))))
noncomputable def l39_0 (n0 : Nat) (Γ : SemL) (n2 : Nat) (x0 : Int) (x1 : Int) (x2 : Int) (r3 : List (List D)) : Option Out := loopK Γ shp n0 [1, 3] lb39_0 (St.mk [(1, V.one (X.ptr 0 0)), (3,
  V.one (X.d (D.int IntKind.i64 x0)))] [(0, Blk.mk [Lf.int IntKind.i64, Lf.int IntKind.i64, Lf.lst 3] [X.d (D.int IntKind.i64 x1), X.d (D.int IntKind.i64 x2), X.d (D.list 3 r3)])] [] 1 0 0)
  (kBlk 0 (kSeq (some []) (fun s K => Jn Γ shp n2 j39_3 s K) (finK (Sh.owns (shp 39)) (SFunc.results sf39) 0)))
noncomputable def q57_3 (Γ : SemL) (n1 : Nat) (x0 : Int) (x1 : Int) : Option Out := Jn Γ shp n1 j57_3 (St.mk [(0, V.one (X.d (D.int IntKind.i64 x0))), (1, V.one (X.d (D.int IntKind.i64 x1)))]
  [] [] 0 0 0) (finK (Sh.owns (shp 57)) (SFunc.results sf57) 0)
noncomputable def q58_0 (Γ : SemL) (n1 : Nat) (n2 : Nat) (r0 : List (List D)) (r1 : List (List D)) (r2 : List (List D)) (x3 : Int) (x4 : Int) : Option Out := Jn Γ shp n1 j58_0 (St.mk [(0,
  V.one (X.d (D.list 3 r0))), (1, V.one (X.d (D.list 3 r1))), (2, V.one (X.fn 30 [])), (11, V.one (X.d (D.list 3 r2))), (12, V.one (X.d (D.int IntKind.i64 x3))), (13, V.one (X.d (D.int
  IntKind.i64 x4)))] [] [] 0 0 0) (kLoop (loopK Γ shp n1) [0, 1, 2, 11, 12, 13] lb58_0 (kBlk 0 (kSeq (some [0, 1]) (fun s K => Jn Γ shp n2 j58_3 s K) (finK (Sh.owns (shp 58)) (SFunc.results
  sf58) 0))))
noncomputable def q58_3 (Γ : SemL) (n1 : Nat) (r0 : List (List D)) (r1 : List (List D)) : Option Out := Jn Γ shp n1 j58_3 (St.mk [(0, V.one (X.d (D.list 3 r0))), (1, V.one (X.d (D.list 3
  r1)))] [] [] 0 0 0) (finK (Sh.owns (shp 58)) (SFunc.results sf58) 0)
noncomputable def q31_2 (Γ : SemL) (n1 : Nat) (n2 : Nat) (x0 : Int) (x1 : Int) (x2 : Int) (x3 : Int) (r4 : List (List D)) (x5 : Int) (x6 : Int) (r7 : List (List D)) : Option Out := Jn Γ shp
  n1 j31_2 (St.mk [(2, V.one (X.ptr 0 0)), (3, V.one (X.ptr 1 0)), (5, V.one (X.d (D.int IntKind.i64 x0))), (6, V.one (X.d (D.int IntKind.i64 x1)))] [(0, Blk.mk [Lf.int IntKind.i64, Lf.int
  IntKind.i64, Lf.lst 3] [X.d (D.int IntKind.i64 x2), X.d (D.int IntKind.i64 x3), X.d (D.list 3 r4)]), (1, Blk.mk [Lf.int IntKind.i64, Lf.int IntKind.i64, Lf.lst 3] [X.d (D.int IntKind.i64
  x5), X.d (D.int IntKind.i64 x6), X.d (D.list 3 r7)])] [] 2 0 0) (kLoop (loopK Γ shp n1) [2, 3, 5, 6] lb31_0 (kBlk 0 (kSeq (some [2, 3, 5]) (fun s K => Jn Γ shp n2 j31_3 s K) (finK (Sh.owns
  (shp 31)) (SFunc.results sf31) 0))))
noncomputable def q31_4 (Γ : SemL) (n1 : Nat) (x0 : Int) : Option Out := Jn Γ shp n1 j31_4 (St.mk [(5, V.one (X.d (D.int IntKind.i64 x0)))] [] [] 0 0 0) (finK (Sh.owns (shp 31))
  (SFunc.results sf31) 0)
noncomputable def q38_2 (Γ : SemL) (n1 : Nat) (n2 : Nat) (x0 : Int) (x1 : Int) (x2 : Int) (r3 : List (List D)) (x4 : Int) (x5 : Int) (r6 : List (List D)) : Option Out := Jn Γ shp n1 j38_2
  (St.mk [(2, V.one (X.ptr 0 0)), (3, V.one (X.ptr 1 0)), (5, V.one (X.d (D.int IntKind.i64 x0)))] [(0, Blk.mk [Lf.int IntKind.i64, Lf.int IntKind.i64, Lf.lst 3] [X.d (D.int IntKind.i64 x1),
  X.d (D.int IntKind.i64 x2), X.d (D.list 3 r3)]), (1, Blk.mk [Lf.int IntKind.i64, Lf.int IntKind.i64, Lf.lst 3] [X.d (D.int IntKind.i64 x4), X.d (D.int IntKind.i64 x5), X.d (D.list 3 r6)])]
  [] 2 0 0) (kLoop (loopK Γ shp n1) [2, 3, 5] lb38_0 (kBlk 0 (kSeq (some []) (fun s K => Jn Γ shp n2 j38_3 s K) (finK (Sh.owns (shp 38)) (SFunc.results sf38) 0))))
noncomputable def e38_v2 (Γ : SemL) (n1 : Nat) (x0 : Int) (x1 : Int) (r2 : List (List D)) : Option Out := runF Γ shp (Sh.owns (shp 38)) sf38 n1 [V.agg [X.d (D.int IntKind.i64 x0), X.d (D.int
  IntKind.i64 x1), X.d (D.list 3 r2)], V.agg [X.d D.junk, X.d D.junk, X.d D.junk]] []
noncomputable def q38_2_v1 (Γ : SemL) (n1 : Nat) (n2 : Nat) (x0 : Int) (x1 : Int) (x2 : Int) (r3 : List (List D)) (x4 : Int) (x5 : Int) : Option Out := Jn Γ shp n1 j38_2 (St.mk [(2, V.one
  (X.ptr 0 0)), (3, V.one (X.ptr 1 0)), (5, V.one (X.d (D.int IntKind.i64 x0)))] [(0, Blk.mk [Lf.int IntKind.i64, Lf.int IntKind.i64, Lf.lst 3] [X.d (D.int IntKind.i64 x1), X.d (D.int
  IntKind.i64 x2), X.d (D.list 3 r3)]), (1, Blk.mk [Lf.int IntKind.i64, Lf.int IntKind.i64, Lf.lst 3] [X.d (D.int IntKind.i64 x4), X.d (D.int IntKind.i64 x5), X.nilL 3])] [] 2 0 0) (kLoop
  (loopK Γ shp n1) [2, 3, 5] lb38_0 (kBlk 0 (kSeq (some []) (fun s K => Jn Γ shp n2 j38_3 s K) (finK (Sh.owns (shp 38)) (SFunc.results sf38) 0))))
noncomputable def q39_1 (Γ : SemL) (n1 : Nat) (n2 : Nat) (x0 : Int) (x1 : Int) (x2 : Int) (r3 : List (List D)) : Option Out := Jn Γ shp n1 j39_1 (St.mk [(1, V.one (X.ptr 0 0)), (3, V.one (X.d
  (D.int IntKind.i64 x0)))] [(0, Blk.mk [Lf.int IntKind.i64, Lf.int IntKind.i64, Lf.lst 3] [X.d (D.int IntKind.i64 x1), X.d (D.int IntKind.i64 x2), X.d (D.list 3 r3)])] [] 1 0 0) (kLoop
  (loopK Γ shp n1) [1, 3] lb39_0 (kBlk 0 (kSeq (some []) (fun s K => Jn Γ shp n2 j39_3 s K) (finK (Sh.owns (shp 39)) (SFunc.results sf39) 0))))
noncomputable def q39_3 (Γ : SemL) (n1 : Nat) : Option Out := Jn Γ shp n1 j39_3 (St.mk [] [] [] 0 0 0) (finK (Sh.owns (shp 39)) (SFunc.results sf39) 0)
noncomputable def q57_4 (Γ : SemL) (n1 : Nat) : Option Out := Jn Γ shp n1 j57_4 (St.mk [] [] [] 0 0 0) (finK (Sh.owns (shp 57)) (SFunc.results sf57) 0)
noncomputable def q58_1 (Γ : SemL) (n1 : Nat) (n2 : Nat) (r0 : List (List D)) (r1 : List (List D)) (x2 : Int) (r3 : List (List D)) (x4 : Int) (x5 : Int) (y6 : D) (y7 : D) (y8 : D) : Option
  Out := Jn Γ shp n1 j58_1 (St.mk [(0, V.one (X.d (D.list 3 r0))), (1, V.one (X.d (D.list 3 r1))), (2, V.one (X.fn 30 [])), (7, V.one (X.d (D.int IntKind.i64 x2))), (8, V.one (X.ptr 0 0)),
  (11, V.one (X.d (D.list 3 r3))), (12, V.one (X.d (D.int IntKind.i64 x4))), (13, V.one (X.d (D.int IntKind.i64 x5)))] [(0, Blk.mk [Lf.int IntKind.i64, Lf.int IntKind.i64, Lf.lst 3] [X.d y6,
  X.d y7, X.d y8])] [] 1 0 0) (kBlk 1 (kSeq (some [0, 1, 2, 11, 12, 13]) (fun s K => Jn Γ shp n1 j58_2 s K) (kLoop (loopK Γ shp n1) [0, 1, 2, 11, 12, 13] lb58_0 (kBlk 0 (kSeq (some [0, 1])
  (fun s K => Jn Γ shp n2 j58_3 s K) (finK (Sh.owns (shp 58)) (SFunc.results sf58) 0))))))
noncomputable def q58_4 (Γ : SemL) (n1 : Nat) : Option Out := Jn Γ shp n1 j58_4 (St.mk [] [] [] 0 0 0) (finK (Sh.owns (shp 58)) (SFunc.results sf58) 0)
noncomputable def q39_2 (Γ : SemL) (n1 : Nat) (n2 : Nat) (x0 : Int) (x1 : Int) (x2 : Int) (r3 : List (List D)) : Option Out := Jn Γ shp n1 j39_2 (St.mk [(1, V.one (X.ptr 0 0)), (3, V.one (X.d
  (D.int IntKind.i64 x0)))] [(0, Blk.mk [Lf.int IntKind.i64, Lf.int IntKind.i64, Lf.lst 3] [X.d (D.int IntKind.i64 x1), X.d (D.int IntKind.i64 x2), X.d (D.list 3 r3)])] [] 1 0 0) (kLoop
  (loopK Γ shp n1) [1, 3] lb39_0 (kBlk 0 (kSeq (some []) (fun s K => Jn Γ shp n2 j39_3 s K) (finK (Sh.owns (shp 39)) (SFunc.results sf39) 0))))
noncomputable def q58_2 (Γ : SemL) (n1 : Nat) (n2 : Nat) (r0 : List (List D)) (r1 : List (List D)) (r2 : List (List D)) (x3 : Int) (x4 : Int) : Option Out := Jn Γ shp n1 j58_2 (St.mk [(0,
  V.one (X.d (D.list 3 r0))), (1, V.one (X.d (D.list 3 r1))), (2, V.one (X.fn 30 [])), (11, V.one (X.d (D.list 3 r2))), (12, V.one (X.d (D.int IntKind.i64 x3))), (13, V.one (X.d (D.int
  IntKind.i64 x4)))] [] [] 0 0 0) (kLoop (loopK Γ shp n1) [0, 1, 2, 11, 12, 13] lb58_0 (kBlk 0 (kSeq (some [0, 1]) (fun s K => Jn Γ shp n2 j58_3 s K) (finK (Sh.owns (shp 58)) (SFunc.results
  sf58) 0))))
theorem e30_eq (Γ : SemL) (n1 : Nat) (x0 : Int) (x1 : Int) (r2 : List (List D)) (x3 : Int) (x4 : Int) (r5 : List (List D)) : e30 Γ n1 x0 x1 r2 x3 x4 r5 = r_oI (Γ 57 [V.one (X.d (D.int
  IntKind.i64 x0)), V.one (X.d (D.int IntKind.i64 x3))] []) [] fun i2_ => bif i2_ == 0 then r_oI (Γ 57 [V.one (X.d (D.int IntKind.i64 x1)), V.one (X.d (D.int IntKind.i64 x4))] []) [] fun i1_
  => q30_0 Γ n1 i1_ x0 x1 r2 x3 x4 r5 else q30_0 Γ n1 i2_ x0 x1 r2 x3 x4 r5 := (run_step ..).trans (by kernel_rfl)
theorem e31_eq (Γ : SemL) (n1 : Nat) (x0 : Int) (x1 : Int) (r2 : List (List D)) (x3 : Int) (x4 : Int) (r5 : List (List D)) : e31 Γ n1 x0 x1 r2 x3 x4 r5 = r_oI (Γ 59 [V.one (X.d (D.int
  IntKind.i64 x0)), V.one (X.d (D.int IntKind.i64 x3))] []) [] fun i2_ => bif i2_ == 0 then r_oI (Γ 59 [V.one (X.d (D.int IntKind.i64 x1)), V.one (X.d (D.int IntKind.i64 x4))] []) [] fun i1_
  => q31_0 Γ n1 i1_ x0 x1 r2 x3 x4 r5 else q31_0 Γ n1 i2_ x0 x1 r2 x3 x4 r5 := (run_step ..).trans (by kernel_rfl)
theorem e32_eq (Γ : SemL) (n1 : Nat) (x0 : Int) (x1 : Int) (r2 : List (List D)) (x3 : Int) (x4 : Int) (r5 : List (List D)) : e32 Γ n1 x0 x1 r2 x3 x4 r5 = r_oI (Γ 30 [V.agg [X.d (D.int
  IntKind.i64 x0), X.d (D.int IntKind.i64 x1), X.d (D.list 3 r2)], V.agg [X.d (D.int IntKind.i64 x3), X.d (D.int IntKind.i64 x4), X.d (D.list 3 r5)]] []) [] fun i1_ => some (Out.mk true
  (V.one (X.d (D.bool (i1_ == 0)))) D.junk [] 0) := (run_step ..).trans (by kernel_rfl)
theorem e33_eq (Γ : SemL) (n1 : Nat) (x0 : Int) (x1 : Int) (r2 : List (List D)) (x3 : Int) (x4 : Int) (r5 : List (List D)) : e33 Γ n1 x0 x1 r2 x3 x4 r5 = r_oI (Γ 31 [V.agg [X.d (D.int
  IntKind.i64 x0), X.d (D.int IntKind.i64 x1), X.d (D.list 3 r2)], V.agg [X.d (D.int IntKind.i64 x3), X.d (D.int IntKind.i64 x4), X.d (D.list 3 r5)]] []) [] fun i1_ => some (Out.mk true
  (V.one (X.d (D.bool (i1_ == 0)))) D.junk [] 0) := (run_step ..).trans (by kernel_rfl)
theorem e38_eq (Γ : SemL) (n1 : Nat) (x0 : Int) (x1 : Int) (r2 : List (List D)) (x3 : Int) (x4 : Int) (r5 : List (List D)) : e38 Γ n1 x0 x1 r2 x3 x4 r5 = bif x0 != x3 then some (Out.mk true
  (V.one (X.d (D.bool false))) D.junk [] 0) else bif x1 != x4 then some (Out.mk true (V.one (X.d (D.bool false))) D.junk [] 0) else bif Int.ofNat (List.length r2) != Int.ofNat (List.length
  r5) then some (Out.mk true (V.one (X.d (D.bool false))) D.junk [] 0) else q38_0 Γ n1 x0 x1 r2 x3 x4 r5 := (run_step ..).trans (by kernel_rfl)
theorem e38_v1_eq (Γ : SemL) (n1 : Nat) (x0 : Int) (x1 : Int) (r2 : List (List D)) (x3 : Int) (x4 : Int) : e38_v1 Γ n1 x0 x1 r2 x3 x4 = bif x0 != x3 then some (Out.mk true (V.one (X.d (D.bool
  false))) D.junk [] 0) else bif x1 != x4 then some (Out.mk true (V.one (X.d (D.bool false))) D.junk [] 0) else bif Int.ofNat (List.length r2) != Int.ofNat 0 then some (Out.mk true (V.one
  (X.d (D.bool false))) D.junk [] 0) else q38_0_v1 Γ n1 x0 x1 r2 x3 x4 := (run_step ..).trans (by kernel_rfl)
theorem e40_eq (Γ : SemL) (n1 : Nat) (r0 : List (List D)) : e40 Γ n1 r0 = some (Out.mk true (V.agg [X.d (D.int IntKind.i64 4), X.d (D.int IntKind.i64 0), X.d (D.list 3 r0)]) D.junk [] 0) :=
  (run_step ..).trans (by kernel_rfl)
theorem e57_eq (Γ : SemL) (n1 : Nat) (x0 : Int) (x1 : Int) : e57 Γ n1 x0 x1 = r_oB (Γ 77 [V.one (X.d (D.int IntKind.i64 x0))] []) [] fun c2_ => r_oB (Γ 77 [V.one (X.d (D.int IntKind.i64 x1))]
  []) [] fun c1_ => bif c2_ then bif c1_ then some (Out.mk true (V.one (X.d (D.int IntKind.i64 0))) D.junk [] 0) else q57_0 Γ n1 else q57_1 Γ n1 x0 x1 c1_ := (run_step ..).trans (by
  kernel_rfl)
theorem q30_0_eq (Γ : SemL) (n1 : Nat) (x0 : Int) (x1 : Int) (x2 : Int) (r3 : List (List D)) (x4 : Int) (x5 : Int) (r6 : List (List D)) : q30_0 Γ n1 x0 x1 x2 r3 x4 x5 r6 = bif x0 == 0 then
  r_oI (Γ 58 [V.one (X.d (D.list 3 r3)), V.one (X.d (D.list 3 r6)), V.one (X.fn 30 [])] []) [] fun i1_ => q30_1 Γ n1 i1_ else q30_1 Γ n1 x0 := (Jn_step ..).trans (by kernel_rfl)
theorem e59_eq (Γ : SemL) (n1 : Nat) (x0 : Int) (x1 : Int) : e59 Γ n1 x0 x1 = bif decide (x0 < x1) then some (Out.mk true (V.one (X.d (D.int IntKind.i64 (-1)))) D.junk [] 0) else bif decide
  (x0 > x1) then some (Out.mk true (V.one (X.d (D.int IntKind.i64 1))) D.junk [] 0) else q59_0 Γ n1 := (run_step ..).trans (by kernel_rfl)
theorem q31_0_eq (Γ : SemL) (n1 : Nat) (x0 : Int) (x1 : Int) (x2 : Int) (r3 : List (List D)) (x4 : Int) (x5 : Int) (r6 : List (List D)) : q31_0 Γ n1 x0 x1 x2 r3 x4 x5 r6 = l31_0 n1 Γ n1 x0 0
  x1 x2 r3 x4 x5 r6 := (Jn_step ..).trans (by kernel_rfl)
theorem q38_0_eq (Γ : SemL) (n1 : Nat) (x0 : Int) (x1 : Int) (r2 : List (List D)) (x3 : Int) (x4 : Int) (r5 : List (List D)) : q38_0 Γ n1 x0 x1 r2 x3 x4 r5 = l38_0 n1 Γ n1 0 x0 x1 r2 x3 x4 r5
  := (Jn_step ..).trans (by kernel_rfl)
theorem q38_0_v1_eq (Γ : SemL) (n1 : Nat) (x0 : Int) (x1 : Int) (r2 : List (List D)) (x3 : Int) (x4 : Int) : q38_0_v1 Γ n1 x0 x1 r2 x3 x4 = l38_0_v1 n1 Γ n1 0 x0 x1 r2 x3 x4 := (Jn_step
  ..).trans (by kernel_rfl)
theorem e39_eq (Γ : SemL) (n1 : Nat) (x0 : Int) (x1 : Int) (r2 : List (List D)) : e39 Γ n1 x0 x1 r2 = bif x0 == 4 then bif Int.ofNat (List.length r2) == 0 then some (Out.mk true (V.one (X.d
  (D.bool true))) D.junk [] 0) else q39_0 Γ n1 x0 x1 r2 else q39_0 Γ n1 x0 x1 r2 := (run_step ..).trans (by kernel_rfl)
theorem e77_eq (Γ : SemL) (n1 : Nat) (x0 : Int) : e77 Γ n1 x0 = some (Out.mk true (V.one (X.d (D.bool (x0 != x0)))) D.junk [] 0) := (run_step ..).trans (by kernel_rfl)
theorem q57_0_eq (Γ : SemL) (n1 : Nat) : q57_0 Γ n1 = some (Out.mk true (V.one (X.d (D.int IntKind.i64 (-1)))) D.junk [] 0) := (Jn_step ..).trans (by kernel_rfl)
theorem q57_1_eq (Γ : SemL) (n1 : Nat) (x0 : Int) (x1 : Int) (b2 : Bool) : q57_1 Γ n1 x0 x1 b2 = bif b2 then some (Out.mk true (V.one (X.d (D.int IntKind.i64 1))) D.junk [] 0) else q57_2 Γ n1
  x0 x1 := (Jn_step ..).trans (by kernel_rfl)
theorem e58_eq (Γ : SemL) (n1 : Nat) (r0 : List (List D)) (r1 : List (List D)) : e58 Γ n1 r0 r1 = l58_0 n1 Γ n1 r0 r1 r0 (Int.ofNat (List.length r0)) 0 := (run_step ..).trans (by kernel_rfl)
theorem q30_1_eq (Γ : SemL) (n1 : Nat) (x0 : Int) : q30_1 Γ n1 x0 = some (Out.mk true (V.one (X.d (D.int IntKind.i64 x0))) D.junk [] 0) := (Jn_step ..).trans (by kernel_rfl)
theorem q59_0_eq (Γ : SemL) (n1 : Nat) : q59_0 Γ n1 = some (Out.mk true (V.one (X.d (D.int IntKind.i64 0))) D.junk [] 0) := (Jn_step ..).trans (by kernel_rfl)
theorem l31_0_eq (n0 : Nat) (Γ : SemL) (n2 : Nat) (x0 : Int) (x1 : Int) (x2 : Int) (x3 : Int) (r4 : List (List D)) (x5 : Int) (x6 : Int) (r7 : List (List D)) : l31_0 (n0 + 1) Γ n2 x0 x1 x2 x3
  r4 x5 x6 r7 = bif x0 == 0 then bif decide (x1 < Int.ofNat (List.length r4)) then bif decide (x1 < Int.ofNat (List.length r7)) then q31_1 Γ n0 n2 x1 x2 x3 r4 x5 x6 r7 else q31_3 Γ n2 x0 x2
  x3 r4 x5 x6 r7 else q31_3 Γ n2 x0 x2 x3 r4 x5 x6 r7 else q31_3 Γ n2 x0 x2 x3 r4 x5 x6 r7 := (loop_step ..).trans (by kernel_rfl)
theorem l38_0_eq (n0 : Nat) (Γ : SemL) (n2 : Nat) (x0 : Int) (x1 : Int) (x2 : Int) (r3 : List (List D)) (x4 : Int) (x5 : Int) (r6 : List (List D)) : l38_0 (n0 + 1) Γ n2 x0 x1 x2 r3 x4 x5 r6 =
  bif decide (x0 < Int.ofNat (List.length r3)) then q38_1 Γ n0 n2 x0 x1 x2 r3 x4 x5 r6 else q38_3 Γ n2 := (loop_step ..).trans (by kernel_rfl)
theorem l38_0_v1_eq (n0 : Nat) (Γ : SemL) (n2 : Nat) (x0 : Int) (x1 : Int) (x2 : Int) (r3 : List (List D)) (x4 : Int) (x5 : Int) : l38_0_v1 (n0 + 1) Γ n2 x0 x1 x2 r3 x4 x5 = bif decide (x0 <
  Int.ofNat (List.length r3)) then q38_1_v1 Γ n0 n2 x0 x1 x2 r3 x4 x5 else q38_3 Γ n2 := (loop_step ..).trans (by kernel_rfl)
theorem q39_0_eq (Γ : SemL) (n1 : Nat) (x0 : Int) (x1 : Int) (r2 : List (List D)) : q39_0 Γ n1 x0 x1 r2 = l39_0 n1 Γ n1 0 x0 x1 r2 := (Jn_step ..).trans (by kernel_rfl)
theorem q57_2_eq (Γ : SemL) (n1 : Nat) (x0 : Int) (x1 : Int) : q57_2 Γ n1 x0 x1 = bif decide (x0 < x1) then some (Out.mk true (V.one (X.d (D.int IntKind.i64 (-1)))) D.junk [] 0) else q57_3 Γ
  n1 x0 x1 := (Jn_step ..).trans (by kernel_rfl)
theorem l58_0_eq (n0 : Nat) (Γ : SemL) (n2 : Nat) (r0 : List (List D)) (r1 : List (List D)) (r2 : List (List D)) (x3 : Int) (x4 : Int) : l58_0 (n0 + 1) Γ n2 r0 r1 r2 x3 x4 = bif decide (x4 <
  x3) then q58_0 Γ n0 n2 r0 r1 r2 x3 x4 else q58_3 Γ n2 r0 r1 := (loop_step ..).trans (by kernel_rfl)
theorem q31_1_eq (Γ : SemL) (n1 : Nat) (n2 : Nat) (x0 : Int) (x1 : Int) (x2 : Int) (r3 : List (List D)) (x4 : Int) (x5 : Int) (r6 : List (List D)) : q31_1 Γ n1 n2 x0 x1 x2 r3 x4 x5 r6 = bif
  decide (0 ≤ x0) && decide (x0 < Int.ofNat (List.length r3)) then bif decide (0 ≤ x0) && decide (x0 < Int.ofNat (List.length r6)) then r_oI (Γ 31 [V.agg [X.d (List.getD (List.getD r3
  (Int.toNat x0) []) 0 D.junk), X.d (List.getD (List.getD r3 (Int.toNat x0) []) 1 D.junk), X.d (List.getD (List.getD r3 (Int.toNat x0) []) 2 D.junk)], V.agg [X.d (List.getD (List.getD r6
  (Int.toNat x0) []) 0 D.junk), X.d (List.getD (List.getD r6 (Int.toNat x0) []) 1 D.junk), X.d (List.getD (List.getD r6 (Int.toNat x0) []) 2 D.junk)]] []) [] fun i1_ => q31_2 Γ n1 n2 i1_ x0
  x1 x2 r3 x4 x5 r6 else none else none := (Jn_step ..).trans (by kernel_rfl)
theorem q31_3_eq (Γ : SemL) (n1 : Nat) (x0 : Int) (x1 : Int) (x2 : Int) (r3 : List (List D)) (x4 : Int) (x5 : Int) (r6 : List (List D)) : q31_3 Γ n1 x0 x1 x2 r3 x4 x5 r6 = bif x0 == 0 then
  r_oI (Γ 59 [V.one (X.d (D.int IntKind.i64 (Int.ofNat (List.length r3)))), V.one (X.d (D.int IntKind.i64 (Int.ofNat (List.length r6))))] []) [] fun i1_ => q31_4 Γ n1 i1_ else q31_4 Γ n1 x0
  := (Jn_step ..).trans (by kernel_rfl)
theorem q38_1_eq (Γ : SemL) (n1 : Nat) (n2 : Nat) (x0 : Int) (x1 : Int) (x2 : Int) (r3 : List (List D)) (x4 : Int) (x5 : Int) (r6 : List (List D)) : q38_1 Γ n1 n2 x0 x1 x2 r3 x4 x5 r6 = bif
  decide (0 ≤ x0) && decide (x0 < Int.ofNat (List.length r3)) then bif decide (0 ≤ x0) && decide (x0 < Int.ofNat (List.length r6)) then r_oB (Γ 38 [V.agg [X.d (List.getD (List.getD r3
  (Int.toNat x0) []) 0 D.junk), X.d (List.getD (List.getD r3 (Int.toNat x0) []) 1 D.junk), X.d (List.getD (List.getD r3 (Int.toNat x0) []) 2 D.junk)], V.agg [X.d (List.getD (List.getD r6
  (Int.toNat x0) []) 0 D.junk), X.d (List.getD (List.getD r6 (Int.toNat x0) []) 1 D.junk), X.d (List.getD (List.getD r6 (Int.toNat x0) []) 2 D.junk)]] []) [] fun c1_ => bif !c1_ then some
  (Out.mk true (V.one (X.d (D.bool false))) D.junk [] 0) else q38_2 Γ n1 n2 x0 x1 x2 r3 x4 x5 r6 else none else none := (Jn_step ..).trans (by kernel_rfl)
theorem q38_3_eq (Γ : SemL) (n1 : Nat) : q38_3 Γ n1 = some (Out.mk true (V.one (X.d (D.bool true))) D.junk [] 0) := (Jn_step ..).trans (by kernel_rfl)
theorem q38_1_v1_eq (Γ : SemL) (n1 : Nat) (n2 : Nat) (x0 : Int) (x1 : Int) (x2 : Int) (r3 : List (List D)) (x4 : Int) (x5 : Int) : q38_1_v1 Γ n1 n2 x0 x1 x2 r3 x4 x5 = bif decide (0 ≤ x0) &&
  decide (x0 < Int.ofNat (List.length r3)) then bif decide (0 ≤ x0) && decide (x0 < Int.ofNat 0) then r_oB (Γ 38 [V.agg [X.d (List.getD (List.getD r3 (Int.toNat x0) []) 0 D.junk), X.d
  (List.getD (List.getD r3 (Int.toNat x0) []) 1 D.junk), X.d (List.getD (List.getD r3 (Int.toNat x0) []) 2 D.junk)], V.agg [X.d D.junk, X.d D.junk, X.d D.junk]] []) [] fun c1_ => bif !c1_
  then some (Out.mk true (V.one (X.d (D.bool false))) D.junk [] 0) else q38_2_v1 Γ n1 n2 x0 x1 x2 r3 x4 x5 else none else none := (Jn_step ..).trans (by kernel_rfl)
theorem l39_0_eq (n0 : Nat) (Γ : SemL) (n2 : Nat) (x0 : Int) (x1 : Int) (x2 : Int) (r3 : List (List D)) : l39_0 (n0 + 1) Γ n2 x0 x1 x2 r3 = bif decide (x0 < Int.ofNat (List.length r3)) then
  q39_1 Γ n0 n2 x0 x1 x2 r3 else q39_3 Γ n2 := (loop_step ..).trans (by kernel_rfl)
theorem q57_3_eq (Γ : SemL) (n1 : Nat) (x0 : Int) (x1 : Int) : q57_3 Γ n1 x0 x1 = bif decide (x0 > x1) then some (Out.mk true (V.one (X.d (D.int IntKind.i64 1))) D.junk [] 0) else q57_4 Γ n1
  := (Jn_step ..).trans (by kernel_rfl)
theorem q58_0_eq (Γ : SemL) (n1 : Nat) (n2 : Nat) (r0 : List (List D)) (r1 : List (List D)) (r2 : List (List D)) (x3 : Int) (x4 : Int) : q58_0 Γ n1 n2 r0 r1 r2 x3 x4 = bif decide (0 ≤ x4) &&
  decide (x4 < Int.ofNat (List.length r2)) then bif decide (x4 ≥ Int.ofNat (List.length r1)) then some (Out.mk true (V.one (X.d (D.int IntKind.i64 1))) D.junk [] 0) else q58_1 Γ n1 n2 r0 r1
  x4 r2 x3 x4 (List.getD (List.getD r2 (Int.toNat x4) []) 0 D.junk) (List.getD (List.getD r2 (Int.toNat x4) []) 1 D.junk) (List.getD (List.getD r2 (Int.toNat x4) []) 2 D.junk) else none :=
  (Jn_step ..).trans (by kernel_rfl)
theorem q58_3_eq (Γ : SemL) (n1 : Nat) (r0 : List (List D)) (r1 : List (List D)) : q58_3 Γ n1 r0 r1 = bif decide (Int.ofNat (List.length r0) < Int.ofNat (List.length r1)) then some (Out.mk
  true (V.one (X.d (D.int IntKind.i64 (-1)))) D.junk [] 0) else q58_4 Γ n1 := (Jn_step ..).trans (by kernel_rfl)
theorem q31_2_eq (Γ : SemL) (n1 : Nat) (n2 : Nat) (x0 : Int) (x1 : Int) (x2 : Int) (x3 : Int) (r4 : List (List D)) (x5 : Int) (x6 : Int) (r7 : List (List D)) : q31_2 Γ n1 n2 x0 x1 x2 x3 r4 x5
  x6 r7 = l31_0 n1 Γ n2 x0 (IntKind.wrap IntKind.i64 (x1 + 1)) x2 x3 r4 x5 x6 r7 := (Jn_step ..).trans (by kernel_rfl)
theorem q31_4_eq (Γ : SemL) (n1 : Nat) (x0 : Int) : q31_4 Γ n1 x0 = some (Out.mk true (V.one (X.d (D.int IntKind.i64 x0))) D.junk [] 0) := (Jn_step ..).trans (by kernel_rfl)
theorem q38_2_eq (Γ : SemL) (n1 : Nat) (n2 : Nat) (x0 : Int) (x1 : Int) (x2 : Int) (r3 : List (List D)) (x4 : Int) (x5 : Int) (r6 : List (List D)) : q38_2 Γ n1 n2 x0 x1 x2 r3 x4 x5 r6 = l38_0
  n1 Γ n2 (IntKind.wrap IntKind.i64 (x0 + 1)) x1 x2 r3 x4 x5 r6 := (Jn_step ..).trans (by kernel_rfl)
theorem e38_v2_eq (Γ : SemL) (n1 : Nat) (x0 : Int) (x1 : Int) (r2 : List (List D)) : e38_v2 Γ n1 x0 x1 r2 = none := (run_step ..).trans (by kernel_rfl)
theorem q38_2_v1_eq (Γ : SemL) (n1 : Nat) (n2 : Nat) (x0 : Int) (x1 : Int) (x2 : Int) (r3 : List (List D)) (x4 : Int) (x5 : Int) : q38_2_v1 Γ n1 n2 x0 x1 x2 r3 x4 x5 = l38_0_v1 n1 Γ n2
  (IntKind.wrap IntKind.i64 (x0 + 1)) x1 x2 r3 x4 x5 := (Jn_step ..).trans (by kernel_rfl)
theorem q39_1_eq (Γ : SemL) (n1 : Nat) (n2 : Nat) (x0 : Int) (x1 : Int) (x2 : Int) (r3 : List (List D)) : q39_1 Γ n1 n2 x0 x1 x2 r3 = bif decide (0 ≤ x0) && decide (x0 < Int.ofNat
  (List.length r3)) then r_oB (Γ 39 [V.agg [X.d (List.getD (List.getD r3 (Int.toNat x0) []) 0 D.junk), X.d (List.getD (List.getD r3 (Int.toNat x0) []) 1 D.junk), X.d (List.getD (List.getD r3
  (Int.toNat x0) []) 2 D.junk)]] []) [] fun c1_ => bif c1_ then some (Out.mk true (V.one (X.d (D.bool true))) D.junk [] 0) else q39_2 Γ n1 n2 x0 x1 x2 r3 else none := (Jn_step ..).trans (by
  kernel_rfl)
theorem q39_3_eq (Γ : SemL) (n1 : Nat) : q39_3 Γ n1 = some (Out.mk true (V.one (X.d (D.bool false))) D.junk [] 0) := (Jn_step ..).trans (by kernel_rfl)
theorem q57_4_eq (Γ : SemL) (n1 : Nat) : q57_4 Γ n1 = some (Out.mk true (V.one (X.d (D.int IntKind.i64 0))) D.junk [] 0) := (Jn_step ..).trans (by kernel_rfl)
theorem q58_1_eq (Γ : SemL) (n1 : Nat) (n2 : Nat) (r0 : List (List D)) (r1 : List (List D)) (x2 : Int) (r3 : List (List D)) (x4 : Int) (x5 : Int) (y6 : D) (y7 : D) (y8 : D) : q58_1 Γ n1 n2 r0
  r1 x2 r3 x4 x5 y6 y7 y8 = bif decide (0 ≤ x2) && decide (x2 < Int.ofNat (List.length r1)) then r_oI (Γ 30 [V.agg [X.d y6, X.d y7, X.d y8], V.agg [X.d (List.getD (List.getD r1 (Int.toNat x2)
  []) 0 D.junk), X.d (List.getD (List.getD r1 (Int.toNat x2) []) 1 D.junk), X.d (List.getD (List.getD r1 (Int.toNat x2) []) 2 D.junk)]] []) [] fun i1_ => bif i1_ != 0 then some (Out.mk true
  (V.one (X.d (D.int IntKind.i64 i1_))) D.junk [] 0) else q58_2 Γ n1 n2 r0 r1 r3 x4 x5 else none := (Jn_step ..).trans (by kernel_rfl)
theorem q58_4_eq (Γ : SemL) (n1 : Nat) : q58_4 Γ n1 = some (Out.mk true (V.one (X.d (D.int IntKind.i64 0))) D.junk [] 0) := (Jn_step ..).trans (by kernel_rfl)
theorem q39_2_eq (Γ : SemL) (n1 : Nat) (n2 : Nat) (x0 : Int) (x1 : Int) (x2 : Int) (r3 : List (List D)) : q39_2 Γ n1 n2 x0 x1 x2 r3 = l39_0 n1 Γ n2 (IntKind.wrap IntKind.i64 (x0 + 1)) x1 x2
  r3 := (Jn_step ..).trans (by kernel_rfl)
theorem q58_2_eq (Γ : SemL) (n1 : Nat) (n2 : Nat) (r0 : List (List D)) (r1 : List (List D)) (r2 : List (List D)) (x3 : Int) (x4 : Int) : q58_2 Γ n1 n2 r0 r1 r2 x3 x4 = l58_0 n1 Γ n2 r0 r1 r2
  x3 (IntKind.wrap IntKind.i64 (x4 + 1)) := (Jn_step ..).trans (by kernel_rfl)
theorem call30 (k : Nat) (x0 : Int) (x1 : Int) (r2 : List (List D)) (x3 : Int) (x4 : Int) (r5 : List (List D)) : Ak (k + 1) 30 [V.agg [X.d (D.int IntKind.i64 x0), X.d (D.int IntKind.i64 x1),
  X.d (D.list 3 r2)], V.agg [X.d (D.int IntKind.i64 x3), X.d (D.int IntKind.i64 x4), X.d (D.list 3 r5)]] [] = e30 (Ak k) k x0 x1 r2 x3 x4 r5 := call_step (by kernel_rfl) rfl
theorem call31 (k : Nat) (x0 : Int) (x1 : Int) (r2 : List (List D)) (x3 : Int) (x4 : Int) (r5 : List (List D)) : Ak (k + 1) 31 [V.agg [X.d (D.int IntKind.i64 x0), X.d (D.int IntKind.i64 x1),
  X.d (D.list 3 r2)], V.agg [X.d (D.int IntKind.i64 x3), X.d (D.int IntKind.i64 x4), X.d (D.list 3 r5)]] [] = e31 (Ak k) k x0 x1 r2 x3 x4 r5 := call_step (by kernel_rfl) rfl
theorem call32 (k : Nat) (x0 : Int) (x1 : Int) (r2 : List (List D)) (x3 : Int) (x4 : Int) (r5 : List (List D)) : Ak (k + 1) 32 [V.agg [X.d (D.int IntKind.i64 x0), X.d (D.int IntKind.i64 x1),
  X.d (D.list 3 r2)], V.agg [X.d (D.int IntKind.i64 x3), X.d (D.int IntKind.i64 x4), X.d (D.list 3 r5)]] [] = e32 (Ak k) k x0 x1 r2 x3 x4 r5 := call_step (by kernel_rfl) rfl
theorem call33 (k : Nat) (x0 : Int) (x1 : Int) (r2 : List (List D)) (x3 : Int) (x4 : Int) (r5 : List (List D)) : Ak (k + 1) 33 [V.agg [X.d (D.int IntKind.i64 x0), X.d (D.int IntKind.i64 x1),
  X.d (D.list 3 r2)], V.agg [X.d (D.int IntKind.i64 x3), X.d (D.int IntKind.i64 x4), X.d (D.list 3 r5)]] [] = e33 (Ak k) k x0 x1 r2 x3 x4 r5 := call_step (by kernel_rfl) rfl
theorem call38 (k : Nat) (x0 : Int) (x1 : Int) (r2 : List (List D)) (x3 : Int) (x4 : Int) (r5 : List (List D)) : Ak (k + 1) 38 [V.agg [X.d (D.int IntKind.i64 x0), X.d (D.int IntKind.i64 x1),
  X.d (D.list 3 r2)], V.agg [X.d (D.int IntKind.i64 x3), X.d (D.int IntKind.i64 x4), X.d (D.list 3 r5)]] [] = e38 (Ak k) k x0 x1 r2 x3 x4 r5 := call_step (by kernel_rfl) rfl
theorem call38_v1 (k : Nat) (x0 : Int) (x1 : Int) (r2 : List (List D)) (x3 : Int) (x4 : Int) : Ak (k + 1) 38 [V.agg [X.d (D.int IntKind.i64 x0), X.d (D.int IntKind.i64 x1), X.d (D.list 3
  r2)], V.agg [X.d (D.int IntKind.i64 x3), X.d (D.int IntKind.i64 x4), X.nilL 3]] [] = e38_v1 (Ak k) k x0 x1 r2 x3 x4 := call_step (by kernel_rfl) rfl
theorem call40 (k : Nat) (r0 : List (List D)) : Ak (k + 1) 40 [V.one (X.d (D.list 3 r0))] [] = e40 (Ak k) k r0 := call_step (by kernel_rfl) rfl
theorem call57 (k : Nat) (x0 : Int) (x1 : Int) : Ak (k + 1) 57 [V.one (X.d (D.int IntKind.i64 x0)), V.one (X.d (D.int IntKind.i64 x1))] [] = e57 (Ak k) k x0 x1 := call_step (by kernel_rfl)
  rfl
theorem call59 (k : Nat) (x0 : Int) (x1 : Int) : Ak (k + 1) 59 [V.one (X.d (D.int IntKind.i64 x0)), V.one (X.d (D.int IntKind.i64 x1))] [] = e59 (Ak k) k x0 x1 := call_step (by kernel_rfl)
  rfl
theorem call39 (k : Nat) (x0 : Int) (x1 : Int) (r2 : List (List D)) : Ak (k + 1) 39 [V.agg [X.d (D.int IntKind.i64 x0), X.d (D.int IntKind.i64 x1), X.d (D.list 3 r2)]] [] = e39 (Ak k) k x0 x1
  r2 := call_step (by kernel_rfl) rfl
theorem call77 (k : Nat) (x0 : Int) : Ak (k + 1) 77 [V.one (X.d (D.int IntKind.i64 x0))] [] = e77 (Ak k) k x0 := call_step (by kernel_rfl) rfl
theorem call58 (k : Nat) (r0 : List (List D)) (r1 : List (List D)) : Ak (k + 1) 58 [V.one (X.d (D.list 3 r0)), V.one (X.d (D.list 3 r1)), V.one (X.fn 30 [])] [] = e58 (Ak k) k r0 r1 :=
  call_step (by kernel_rfl) rfl
theorem call38_v2 (k : Nat) (x0 : Int) (x1 : Int) (r2 : List (List D)) : Ak (k + 1) 38 [V.agg [X.d (D.int IntKind.i64 x0), X.d (D.int IntKind.i64 x1), X.d (D.list 3 r2)], V.agg [X.d D.junk,
  X.d D.junk, X.d D.junk]] [] = e38_v2 (Ak k) k x0 x1 r2 := call_step (by kernel_rfl) rfl
end Go.Proofs.YtkpdofiflhjahaaDoor.Ps
