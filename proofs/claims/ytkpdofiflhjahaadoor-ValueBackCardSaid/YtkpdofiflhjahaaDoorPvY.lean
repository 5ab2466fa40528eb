/- What the pieces of the functions do, as functions of their data. Printed by pack3.py. -/
import Derived.Test.YtkpdofiflhjahaaDoorPv0
namespace Go.Proofs.YtkpdofiflhjahaaDoor.Ps
set_option maxHeartbeats 0
set_option maxRecDepth 100000
set_option linter.unusedVariables false
open Go Go.RowKit
noncomputable def e34 (Γ : SemL) (n1 : Nat) (x0 : Int) (r1 : List (List D)) (s2 : ByteArray) : Option Out := runF Γ shp (Sh.owns (shp 34)) sf34 n1 [V.agg [X.d (D.int IntKind.i64 x0), X.d
  (D.list 2 r1)], V.one (X.d (D.str s2))] []
noncomputable def e36 (Γ : SemL) (n1 : Nat) (x0 : Int) (x1 : Int) (r2 : List (List D)) : Option Out := runF Γ shp (Sh.owns (shp 36)) sf36 n1 [V.agg [X.d (D.int IntKind.i64 x0), X.d (D.int
  IntKind.i64 x1), X.d (D.list 3 r2)]] []
noncomputable def q34_0 (Γ : SemL) (n1 : Nat) (s0 : ByteArray) (x1 : Int) (r2 : List (List D)) (x3 : Int) (x4 : Int) : Option Out := Jn Γ shp n1 j34_0 (St.mk [(1, V.one (X.d (D.str s0))), (2,
  V.one (X.ptr 0 0)), (4, V.one (X.ptr 1 0))] [(0, Blk.mk [Lf.int IntKind.i64, Lf.lst 2] [X.d (D.int IntKind.i64 x1), X.d (D.list 2 r2)]), (1, Blk.mk [Lf.int IntKind.i64, Lf.int IntKind.i64,
  Lf.lst 3] [X.d (D.int IntKind.i64 x3), X.d (D.int IntKind.i64 x4), X.nilL 3])] [] 2 0 0) (finK (Sh.owns (shp 34)) (SFunc.results sf34) 0)
noncomputable def l36_0 (n0 : Nat) (Γ : SemL) (n2 : Nat) (r0 : List (List D)) (x1 : Int) (x2 : Int) (x3 : Int) (x4 : Int) (r5 : List (List D)) : Option Out := loopK Γ shp n0 [1, 3, 8, 9, 10]
  lb36_0 (St.mk [(1, V.one (X.ptr 0 0)), (3, V.one (X.nilL 1)), (8, V.one (X.d (D.list 3 r0))), (9, V.one (X.d (D.int IntKind.i64 x1))), (10, V.one (X.d (D.int IntKind.i64 x2)))] [(0, Blk.mk
  [Lf.int IntKind.i64, Lf.int IntKind.i64, Lf.lst 3] [X.d (D.int IntKind.i64 x3), X.d (D.int IntKind.i64 x4), X.d (D.list 3 r5)])] [] 1 0 0) (kBlk 0 (kSeq (some [1, 3]) (fun s K => Jn Γ shp
  n2 j36_2 s K) (finK (Sh.owns (shp 36)) (SFunc.results sf36) 0)))
noncomputable def e60 (Γ : SemL) (n1 : Nat) (x0 : Int) (r1 : List (List D)) (s2 : ByteArray) : Option Out := runF Γ shp (Sh.owns (shp 60)) sf60 n1 [V.agg [X.d (D.int IntKind.i64 x0), X.d
  (D.list 2 r1)], V.one (X.d (D.str s2))] []
noncomputable def q34_1 (Γ : SemL) (n1 : Nat) (x0 : Int) (x1 : Int) (x2 : Int) (x3 : Int) (r4 : List (List D)) : Option Out := Jn Γ shp n1 j34_1 (St.mk [(4, V.one (X.ptr 0 0)), (6, V.one
  (X.ptr 1 0))] [(0, Blk.mk [Lf.int IntKind.i64, Lf.int IntKind.i64, Lf.lst 3] [X.d (D.int IntKind.i64 x0), X.d (D.int IntKind.i64 x1), X.nilL 3]), (1, Blk.mk [Lf.int IntKind.i64, Lf.int
  IntKind.i64, Lf.lst 3] [X.d (D.int IntKind.i64 x2), X.d (D.int IntKind.i64 x3), X.d (D.list 3 r4)])] [] 2 0 0) (finK (Sh.owns (shp 34)) (SFunc.results sf34) 0)
noncomputable def q36_0 (Γ : SemL) (n1 : Nat) (n2 : Nat) (r0 : List (List D)) (x1 : Int) (x2 : Int) (x3 : Int) (x4 : Int) (r5 : List (List D)) : Option Out := Jn Γ shp n1 j36_0 (St.mk [(1,
  V.one (X.ptr 0 0)), (3, V.one (X.nilL 1)), (8, V.one (X.d (D.list 3 r0))), (9, V.one (X.d (D.int IntKind.i64 x1))), (10, V.one (X.d (D.int IntKind.i64 x2)))] [(0, Blk.mk [Lf.int
  IntKind.i64, Lf.int IntKind.i64, Lf.lst 3] [X.d (D.int IntKind.i64 x3), X.d (D.int IntKind.i64 x4), X.d (D.list 3 r5)])] [] 1 0 0) (kLoop (loopK Γ shp n1) [1, 3, 8, 9, 10] lb36_0 (kBlk 0
  (kSeq (some [1, 3]) (fun s K => Jn Γ shp n2 j36_2 s K) (finK (Sh.owns (shp 36)) (SFunc.results sf36) 0))))
noncomputable def q36_2 (Γ : SemL) (n1 : Nat) (x0 : Int) (x1 : Int) (r2 : List (List D)) : Option Out := Jn Γ shp n1 j36_2 (St.mk [(1, V.one (X.ptr 0 0)), (3, V.one (X.nilL 1))] [(0, Blk.mk
  [Lf.int IntKind.i64, Lf.int IntKind.i64, Lf.lst 3] [X.d (D.int IntKind.i64 x0), X.d (D.int IntKind.i64 x1), X.d (D.list 3 r2)])] [] 1 0 0) (finK (Sh.owns (shp 36)) (SFunc.results sf36) 0)
noncomputable def q60_0 (Γ : SemL) (n1 : Nat) (s0 : ByteArray) (x1 : Int) (x2 : Int) (x3 : Int) (x4 : Int) : Option Out := Jn Γ shp n1 j60_0 (St.mk [(1, V.one (X.d (D.str s0))), (4, V.one
  (X.ptr 0 0)), (7, V.one (X.ptr 1 0))] [(0, Blk.mk [Lf.int IntKind.i64, Lf.int IntKind.i64, Lf.lst 3] [X.d (D.int IntKind.i64 x1), X.d (D.int IntKind.i64 x2), X.nilL 3]), (1, Blk.mk [Lf.int
  IntKind.i64, Lf.int IntKind.i64, Lf.lst 3] [X.d (D.int IntKind.i64 x3), X.d (D.int IntKind.i64 x4), X.nilL 3])] [] 2 0 0) (kBlk 0 (kSeq (some [1, 2, 4, 7]) (fun s K => Jn Γ shp n1 j60_3 s
  K) (finK (Sh.owns (shp 60)) (SFunc.results sf60) 0)))
noncomputable def l60_0 (n0 : Nat) (Γ : SemL) (n2 : Nat) (s0 : ByteArray) (x1 : Int) (x2 : Int) (x3 : Int) (x4 : Int) (x5 : Int) : Option Out := loopK Γ shp n0 [1, 4, 7, 12] lb60_0 (St.mk
  [(1, V.one (X.d (D.str s0))), (4, V.one (X.ptr 0 0)), (7, V.one (X.ptr 1 0)), (12, V.one (X.d (D.int IntKind.i64 x1)))] [(0, Blk.mk [Lf.int IntKind.i64, Lf.int IntKind.i64, Lf.lst 3] [X.d
  (D.int IntKind.i64 x2), X.d (D.int IntKind.i64 x3), X.nilL 3]), (1, Blk.mk [Lf.int IntKind.i64, Lf.int IntKind.i64, Lf.lst 3] [X.d (D.int IntKind.i64 x4), X.d (D.int IntKind.i64 x5), X.nilL
  3])] [] 2 0 0) (kBlk 1 (kSeq (some [1, 4, 7, 12]) (fun s K => Jn Γ shp n2 j60_2 s K) (kBlk 0 (kSeq (some [1, 2, 4, 7]) (fun s K => Jn Γ shp n2 j60_3 s K) (finK (Sh.owns (shp 60))
  (SFunc.results sf60) 0)))))
noncomputable def q60_3 (Γ : SemL) (n1 : Nat) (s0 : ByteArray) (x1 : Int) (r2 : List (List D)) (x3 : Int) (x4 : Int) (x5 : Int) (x6 : Int) : Option Out := Jn Γ shp n1 j60_3 (St.mk [(1, V.one
  (X.d (D.str s0))), (2, V.one (X.ptr 0 0)), (4, V.one (X.ptr 1 0)), (7, V.one (X.ptr 2 0))] [(0, Blk.mk [Lf.int IntKind.i64, Lf.lst 2] [X.d (D.int IntKind.i64 x1), X.d (D.list 2 r2)]), (1,
  Blk.mk [Lf.int IntKind.i64, Lf.int IntKind.i64, Lf.lst 3] [X.d (D.int IntKind.i64 x3), X.d (D.int IntKind.i64 x4), X.nilL 3]), (2, Blk.mk [Lf.int IntKind.i64, Lf.int IntKind.i64, Lf.lst 3]
  [X.d (D.int IntKind.i64 x5), X.d (D.int IntKind.i64 x6), X.nilL 3])] [] 3 0 0) (finK (Sh.owns (shp 60)) (SFunc.results sf60) 0)
noncomputable def q36_1 (Γ : SemL) (n1 : Nat) (n2 : Nat) (r0 : List (List D)) (r1 : List (List D)) (x2 : Int) (x3 : Int) (x4 : Int) (x5 : Int) (r6 : List (List D)) : Option Out := Jn Γ shp n1
  j36_1 (St.mk [(1, V.one (X.ptr 0 0)), (3, V.one (X.own 0 9 1 r0)), (8, V.one (X.d (D.list 3 r1))), (9, V.one (X.d (D.int IntKind.i64 x2))), (10, V.one (X.d (D.int IntKind.i64 x3)))] [(0,
  Blk.mk [Lf.int IntKind.i64, Lf.int IntKind.i64, Lf.lst 3] [X.d (D.int IntKind.i64 x4), X.d (D.int IntKind.i64 x5), X.d (D.list 3 r6)])] [0] 1 1 0) (kLoop (loopK Γ shp n1) [1, 3, 8, 9, 10]
  lb36_0 (kBlk 0 (kSeq (some [1, 3]) (fun s K => Jn Γ shp n2 j36_2 s K) (finK (Sh.owns (shp 36)) (SFunc.results sf36) 0))))
noncomputable def e62 (Γ : SemL) (n1 : Nat) (b0 : Bool) : Option Out := runF Γ shp (Sh.owns (shp 62)) sf62 n1 [V.one (X.d (D.bool b0))] []
noncomputable def q36_3 (Γ : SemL) (n1 : Nat) : Option Out := Jn Γ shp n1 j36_3 (St.mk [] [] [] 0 0 0) (finK (Sh.owns (shp 36)) (SFunc.results sf36) 0)
noncomputable def q60_1 (Γ : SemL) (n1 : Nat) (n2 : Nat) (s0 : ByteArray) (x1 : Int) (x2 : Int) (x3 : Int) (x4 : Int) (x5 : Int) : Option Out := Jn Γ shp n1 j60_1 (St.mk [(1, V.one (X.d
  (D.str s0))), (4, V.one (X.ptr 0 0)), (7, V.one (X.ptr 1 0)), (12, V.one (X.d (D.int IntKind.i64 x1)))] [(0, Blk.mk [Lf.int IntKind.i64, Lf.int IntKind.i64, Lf.lst 3] [X.d (D.int
  IntKind.i64 x2), X.d (D.int IntKind.i64 x3), X.nilL 3]), (1, Blk.mk [Lf.int IntKind.i64, Lf.int IntKind.i64, Lf.lst 3] [X.d (D.int IntKind.i64 x4), X.d (D.int IntKind.i64 x5), X.nilL 3])]
  [] 2 0 0) (kLoop (loopK Γ shp n1) [1, 4, 7, 12] lb60_0 (kBlk 1 (kSeq (some [1, 4, 7, 12]) (fun s K => Jn Γ shp n2 j60_2 s K) (kBlk 0 (kSeq (some [1, 2, 4, 7]) (fun s K => Jn Γ shp n2 j60_3
  s K) (finK (Sh.owns (shp 60)) (SFunc.results sf60) 0))))))
noncomputable def q60_2 (Γ : SemL) (n1 : Nat) (s0 : ByteArray) (x1 : Int) (x2 : Int) (x3 : Int) (x4 : Int) (x5 : Int) : Option Out := Jn Γ shp n1 j60_2 (St.mk [(1, V.one (X.d (D.str s0))),
  (4, V.one (X.ptr 0 0)), (7, V.one (X.ptr 1 0)), (12, V.one (X.d (D.int IntKind.i64 x1)))] [(0, Blk.mk [Lf.int IntKind.i64, Lf.int IntKind.i64, Lf.lst 3] [X.d (D.int IntKind.i64 x2), X.d
  (D.int IntKind.i64 x3), X.nilL 3]), (1, Blk.mk [Lf.int IntKind.i64, Lf.int IntKind.i64, Lf.lst 3] [X.d (D.int IntKind.i64 x4), X.d (D.int IntKind.i64 x5), X.nilL 3])] [] 2 0 0) (kBlk 0
  (kSeq (some [1, 2, 4, 7]) (fun s K => Jn Γ shp n1 j60_3 s K) (finK (Sh.owns (shp 60)) (SFunc.results sf60) 0)))
noncomputable def q60_4 (Γ : SemL) (n1 : Nat) (s0 : ByteArray) (s1 : ByteArray) (s2 : ByteArray) (x3 : Int) (r4 : List (List D)) (x5 : Int) (x6 : Int) (x7 : Int) (x8 : Int) : Option Out := Jn
  Γ shp n1 j60_4 (St.mk [(1, V.one (X.d (D.str s0))), (2, V.one (X.ptr 0 0)), (4, V.one (X.ptr 1 0)), (7, V.one (X.ptr 2 0)), (15, V.one (X.d (D.str s1))), (16, V.one (X.d (D.str s2)))] [(0,
  Blk.mk [Lf.int IntKind.i64, Lf.lst 2] [X.d (D.int IntKind.i64 x3), X.d (D.list 2 r4)]), (1, Blk.mk [Lf.int IntKind.i64, Lf.int IntKind.i64, Lf.lst 3] [X.d (D.int IntKind.i64 x5), X.d (D.int
  IntKind.i64 x6), X.nilL 3]), (2, Blk.mk [Lf.int IntKind.i64, Lf.int IntKind.i64, Lf.lst 3] [X.d (D.int IntKind.i64 x7), X.d (D.int IntKind.i64 x8), X.nilL 3])] [] 3 0 0) (finK (Sh.owns (shp
  60)) (SFunc.results sf60) 0)
noncomputable def l36_0_v1 (n0 : Nat) (Γ : SemL) (n2 : Nat) (r0 : List (List D)) (r1 : List (List D)) (x2 : Int) (x3 : Int) (x4 : Int) (x5 : Int) (r6 : List (List D)) : Option Out := loopK Γ
  shp n0 [1, 3, 8, 9, 10] lb36_0 (St.mk [(1, V.one (X.ptr 0 0)), (3, V.one (X.own 0 9 1 r0)), (8, V.one (X.d (D.list 3 r1))), (9, V.one (X.d (D.int IntKind.i64 x2))), (10, V.one (X.d (D.int
  IntKind.i64 x3)))] [(0, Blk.mk [Lf.int IntKind.i64, Lf.int IntKind.i64, Lf.lst 3] [X.d (D.int IntKind.i64 x4), X.d (D.int IntKind.i64 x5), X.d (D.list 3 r6)])] [0] 1 1 0) (kBlk 0 (kSeq
  (some [1, 3]) (fun s K => Jn Γ shp n2 j36_2 s K) (finK (Sh.owns (shp 36)) (SFunc.results sf36) 0)))
noncomputable def e80 (Γ : SemL) (n1 : Nat) (b0 : Bool) : Option Out := runF Γ shp (Sh.owns (shp 80)) sf80 n1 [V.one (X.d (D.bool b0))] []
noncomputable def q60_5 (Γ : SemL) (n1 : Nat) (s0 : ByteArray) (s1 : ByteArray) (b2 : Bool) (x3 : Int) (r4 : List (List D)) (x5 : Int) (x6 : Int) (x7 : Int) (x8 : Int) : Option Out := Jn Γ
  shp n1 j60_5 (St.mk [(2, V.one (X.ptr 0 0)), (4, V.one (X.ptr 1 0)), (7, V.one (X.ptr 2 0)), (16, V.one (X.d (D.str s0))), (17, V.one (X.d (D.str s1))), (18, V.one (X.d (D.bool b2)))] [(0,
  Blk.mk [Lf.int IntKind.i64, Lf.lst 2] [X.d (D.int IntKind.i64 x3), X.d (D.list 2 r4)]), (1, Blk.mk [Lf.int IntKind.i64, Lf.int IntKind.i64, Lf.lst 3] [X.d (D.int IntKind.i64 x5), X.d (D.int
  IntKind.i64 x6), X.nilL 3]), (2, Blk.mk [Lf.int IntKind.i64, Lf.int IntKind.i64, Lf.lst 3] [X.d (D.int IntKind.i64 x7), X.d (D.int IntKind.i64 x8), X.nilL 3])] [] 3 0 0) (finK (Sh.owns (shp
  60)) (SFunc.results sf60) 0)
noncomputable def q36_0_v1 (Γ : SemL) (n1 : Nat) (n2 : Nat) (r0 : List (List D)) (r1 : List (List D)) (x2 : Int) (x3 : Int) (x4 : Int) (x5 : Int) (r6 : List (List D)) : Option Out := Jn Γ shp
  n1 j36_0 (St.mk [(1, V.one (X.ptr 0 0)), (3, V.one (X.own 0 9 1 r0)), (8, V.one (X.d (D.list 3 r1))), (9, V.one (X.d (D.int IntKind.i64 x2))), (10, V.one (X.d (D.int IntKind.i64 x3)))] [(0,
  Blk.mk [Lf.int IntKind.i64, Lf.int IntKind.i64, Lf.lst 3] [X.d (D.int IntKind.i64 x4), X.d (D.int IntKind.i64 x5), X.d (D.list 3 r6)])] [0] 1 1 0) (kLoop (loopK Γ shp n1) [1, 3, 8, 9, 10]
  lb36_0 (kBlk 0 (kSeq (some [1, 3]) (fun s K => Jn Γ shp n2 j36_2 s K) (finK (Sh.owns (shp 36)) (SFunc.results sf36) 0))))
noncomputable def q36_2_v1 (Γ : SemL) (n1 : Nat) (r0 : List (List D)) (x1 : Int) (x2 : Int) (r3 : List (List D)) : Option Out := Jn Γ shp n1 j36_2 (St.mk [(1, V.one (X.ptr 0 0)), (3, V.one
  (X.own 0 9 1 r0))] [(0, Blk.mk [Lf.int IntKind.i64, Lf.int IntKind.i64, Lf.lst 3] [X.d (D.int IntKind.i64 x1), X.d (D.int IntKind.i64 x2), X.d (D.list 3 r3)])] [0] 1 1 0) (finK (Sh.owns
  (shp 36)) (SFunc.results sf36) 0)
noncomputable def q80_0 (Γ : SemL) (n1 : Nat) : Option Out := Jn Γ shp n1 j80_0 (St.mk [] [] [] 0 0 0) (finK (Sh.owns (shp 80)) (SFunc.results sf80) 0)
noncomputable def l60_1 (n0 : Nat) (Γ : SemL) (n2 : Nat) (s0 : ByteArray) (s1 : ByteArray) (b2 : Bool) (x3 : Int) (x4 : Int) (r5 : List (List D)) (x6 : Int) (x7 : Int) (x8 : Int) (x9 : Int) :
  Option Out := loopK Γ shp n0 [2, 4, 7, 16, 17, 18, 21] lb60_1 (St.mk [(2, V.one (X.ptr 0 0)), (4, V.one (X.ptr 1 0)), (7, V.one (X.ptr 2 0)), (16, V.one (X.d (D.str s0))), (17, V.one (X.d
  (D.str s1))), (18, V.one (X.d (D.bool b2))), (21, V.one (X.d (D.int IntKind.i64 x3)))] [(0, Blk.mk [Lf.int IntKind.i64, Lf.lst 2] [X.d (D.int IntKind.i64 x4), X.d (D.list 2 r5)]), (1,
  Blk.mk [Lf.int IntKind.i64, Lf.int IntKind.i64, Lf.lst 3] [X.d (D.int IntKind.i64 x6), X.d (D.int IntKind.i64 x7), X.nilL 3]), (2, Blk.mk [Lf.int IntKind.i64, Lf.int IntKind.i64, Lf.lst 3]
  [X.d (D.int IntKind.i64 x8), X.d (D.int IntKind.i64 x9), X.nilL 3])] [] 3 0 0) (kBlk 3 (kSeq (some [4, 7]) (fun s K => Jn Γ shp n2 j60_12 s K) (finK (Sh.owns (shp 60)) (SFunc.results sf60)
  0)))
noncomputable def q60_6 (Γ : SemL) (n1 : Nat) (n2 : Nat) (s0 : ByteArray) (s1 : ByteArray) (x2 : Int) (x3 : Int) (r4 : List (List D)) (x5 : Int) (x6 : Int) (x7 : Int) (x8 : Int) : Option Out
  := Jn Γ shp n1 j60_6 (St.mk [(2, V.one (X.ptr 0 0)), (4, V.one (X.ptr 1 0)), (7, V.one (X.ptr 2 0)), (16, V.one (X.d (D.str s0))), (17, V.one (X.d (D.str s1))), (21, V.one (X.d (D.int
  IntKind.i64 x2)))] [(0, Blk.mk [Lf.int IntKind.i64, Lf.lst 2] [X.d (D.int IntKind.i64 x3), X.d (D.list 2 r4)]), (1, Blk.mk [Lf.int IntKind.i64, Lf.int IntKind.i64, Lf.lst 3] [X.d (D.int
  IntKind.i64 x5), X.d (D.int IntKind.i64 x6), X.nilL 3]), (2, Blk.mk [Lf.int IntKind.i64, Lf.int IntKind.i64, Lf.lst 3] [X.d (D.int IntKind.i64 x7), X.d (D.int IntKind.i64 x8), X.nilL 3])]
  [] 3 0 0) (kLoop (loopK Γ shp n1) [2, 4, 7, 16, 17, 18, 21] lb60_1 (kBlk 3 (kSeq (some [4, 7]) (fun s K => Jn Γ shp n2 j60_12 s K) (finK (Sh.owns (shp 60)) (SFunc.results sf60) 0))))
noncomputable def q60_12 (Γ : SemL) (n1 : Nat) (x0 : Int) (x1 : Int) (x2 : Int) (x3 : Int) : Option Out := Jn Γ shp n1 j60_12 (St.mk [(4, V.one (X.ptr 0 0)), (7, V.one (X.ptr 1 0))] [(0,
  Blk.mk [Lf.int IntKind.i64, Lf.int IntKind.i64, Lf.lst 3] [X.d (D.int IntKind.i64 x0), X.d (D.int IntKind.i64 x1), X.nilL 3]), (1, Blk.mk [Lf.int IntKind.i64, Lf.int IntKind.i64, Lf.lst 3]
  [X.d (D.int IntKind.i64 x2), X.d (D.int IntKind.i64 x3), X.nilL 3])] [] 2 0 0) (finK (Sh.owns (shp 60)) (SFunc.results sf60) 0)
noncomputable def q60_7 (Γ : SemL) (n1 : Nat) (n2 : Nat) (s0 : ByteArray) (s1 : ByteArray) (x2 : Int) (x3 : Int) (r4 : List (List D)) (x5 : Int) (x6 : Int) (x7 : Int) (x8 : Int) (y9 : D) (y10
  : D) : Option Out := Jn Γ shp n1 j60_7 (St.mk [(2, V.one (X.ptr 0 0)), (4, V.one (X.ptr 1 0)), (7, V.one (X.ptr 2 0)), (16, V.one (X.d (D.str s0))), (17, V.one (X.d (D.str s1))), (21, V.one
  (X.d (D.int IntKind.i64 x2))), (22, V.one (X.ptr 3 0))] [(0, Blk.mk [Lf.int IntKind.i64, Lf.lst 2] [X.d (D.int IntKind.i64 x3), X.d (D.list 2 r4)]), (1, Blk.mk [Lf.int IntKind.i64, Lf.int
  IntKind.i64, Lf.lst 3] [X.d (D.int IntKind.i64 x5), X.d (D.int IntKind.i64 x6), X.nilL 3]), (2, Blk.mk [Lf.int IntKind.i64, Lf.int IntKind.i64, Lf.lst 3] [X.d (D.int IntKind.i64 x7), X.d
  (D.int IntKind.i64 x8), X.nilL 3]), (3, Blk.mk [Lf.int IntKind.i64, Lf.lst 2] [X.d y9, X.d y10])] [] 4 0 0) (kSeq (some [2, 4, 7, 16, 17, 21, 22]) (fun s K => Jn Γ shp n1 j60_8 s K) (kBlk 4
  (kSeq (some [2, 4, 7, 16, 17, 18, 21]) (fun s K => Jn Γ shp n1 j60_11 s K) (kLoop (loopK Γ shp n1) [2, 4, 7, 16, 17, 18, 21] lb60_1 (kBlk 3 (kSeq (some [4, 7]) (fun s K => Jn Γ shp n2
  j60_12 s K) (finK (Sh.owns (shp 60)) (SFunc.results sf60) 0)))))))
noncomputable def q60_8 (Γ : SemL) (n1 : Nat) (n2 : Nat) (s0 : ByteArray) (s1 : ByteArray) (x2 : Int) (x3 : Int) (r4 : List (List D)) (x5 : Int) (x6 : Int) (x7 : Int) (x8 : Int) (y9 : D) (y10
  : D) : Option Out := Jn Γ shp n1 j60_8 (St.mk [(2, V.one (X.ptr 0 0)), (4, V.one (X.ptr 1 0)), (7, V.one (X.ptr 2 0)), (16, V.one (X.d (D.str s0))), (17, V.one (X.d (D.str s1))), (21, V.one
  (X.d (D.int IntKind.i64 x2))), (22, V.one (X.ptr 3 0))] [(0, Blk.mk [Lf.int IntKind.i64, Lf.lst 2] [X.d (D.int IntKind.i64 x3), X.d (D.list 2 r4)]), (1, Blk.mk [Lf.int IntKind.i64, Lf.int
  IntKind.i64, Lf.lst 3] [X.d (D.int IntKind.i64 x5), X.d (D.int IntKind.i64 x6), X.nilL 3]), (2, Blk.mk [Lf.int IntKind.i64, Lf.int IntKind.i64, Lf.lst 3] [X.d (D.int IntKind.i64 x7), X.d
  (D.int IntKind.i64 x8), X.nilL 3]), (3, Blk.mk [Lf.int IntKind.i64, Lf.lst 2] [X.d y9, X.d y10])] [] 4 0 0) (kBlk 4 (kSeq (some [2, 4, 7, 16, 17, 18, 21]) (fun s K => Jn Γ shp n1 j60_11 s
  K) (kLoop (loopK Γ shp n1) [2, 4, 7, 16, 17, 18, 21] lb60_1 (kBlk 3 (kSeq (some [4, 7]) (fun s K => Jn Γ shp n2 j60_12 s K) (finK (Sh.owns (shp 60)) (SFunc.results sf60) 0))))))
noncomputable def q60_9 (Γ : SemL) (n1 : Nat) (n2 : Nat) (s0 : ByteArray) (s1 : ByteArray) (x2 : Int) (x3 : Int) (r4 : List (List D)) (x5 : Int) (x6 : Int) (x7 : Int) (x8 : Int) (x9 : Int)
  (x10 : Int) (r11 : List (List D)) : Option Out := Jn Γ shp n1 j60_9 (St.mk [(2, V.one (X.ptr 0 0)), (4, V.one (X.ptr 1 0)), (7, V.one (X.ptr 2 0)), (16, V.one (X.d (D.str s0))), (17, V.one
  (X.d (D.str s1))), (21, V.one (X.d (D.int IntKind.i64 x2))), (23, V.one (X.ptr 3 0))] [(0, Blk.mk [Lf.int IntKind.i64, Lf.lst 2] [X.d (D.int IntKind.i64 x3), X.d (D.list 2 r4)]), (1, Blk.mk
  [Lf.int IntKind.i64, Lf.int IntKind.i64, Lf.lst 3] [X.d (D.int IntKind.i64 x5), X.d (D.int IntKind.i64 x6), X.nilL 3]), (2, Blk.mk [Lf.int IntKind.i64, Lf.int IntKind.i64, Lf.lst 3] [X.d
  (D.int IntKind.i64 x7), X.d (D.int IntKind.i64 x8), X.nilL 3]), (3, Blk.mk [Lf.int IntKind.i64, Lf.int IntKind.i64, Lf.lst 3] [X.d (D.int IntKind.i64 x9), X.d (D.int IntKind.i64 x10), X.d
  (D.list 3 r11)])] [] 4 0 0) (kBlk 4 (kSeq (some [2, 4, 7, 16, 17, 18, 21]) (fun s K => Jn Γ shp n1 j60_11 s K) (kLoop (loopK Γ shp n1) [2, 4, 7, 16, 17, 18, 21] lb60_1 (kBlk 3 (kSeq (some
  [4, 7]) (fun s K => Jn Γ shp n2 j60_12 s K) (finK (Sh.owns (shp 60)) (SFunc.results sf60) 0))))))
noncomputable def q60_10 (Γ : SemL) (n1 : Nat) (n2 : Nat) (s0 : ByteArray) (s1 : ByteArray) (x2 : Int) (x3 : Int) (r4 : List (List D)) (x5 : Int) (x6 : Int) (x7 : Int) (x8 : Int) (r9 : List
  (List D)) : Option Out := Jn Γ shp n1 j60_10 (St.mk [(2, V.one (X.ptr 0 0)), (4, V.one (X.ptr 1 0)), (7, V.one (X.ptr 2 0)), (16, V.one (X.d (D.str s0))), (17, V.one (X.d (D.str s1))), (21,
  V.one (X.d (D.int IntKind.i64 x2)))] [(0, Blk.mk [Lf.int IntKind.i64, Lf.lst 2] [X.d (D.int IntKind.i64 x3), X.d (D.list 2 r4)]), (1, Blk.mk [Lf.int IntKind.i64, Lf.int IntKind.i64, Lf.lst
  3] [X.d (D.int IntKind.i64 x5), X.d (D.int IntKind.i64 x6), X.nilL 3]), (2, Blk.mk [Lf.int IntKind.i64, Lf.int IntKind.i64, Lf.lst 3] [X.d (D.int IntKind.i64 x7), X.d (D.int IntKind.i64
  x8), X.own 0 36 3 r9])] [0] 3 1 0) (kBlk 4 (kSeq (some [2, 4, 7, 16, 17, 18, 21]) (fun s K => Jn Γ shp n1 j60_11 s K) (kLoop (loopK Γ shp n1) [2, 4, 7, 16, 17, 18, 21] lb60_1 (kBlk 3 (kSeq
  (some [4, 7]) (fun s K => Jn Γ shp n2 j60_12 s K) (finK (Sh.owns (shp 60)) (SFunc.results sf60) 0))))))
noncomputable def q60_11 (Γ : SemL) (n1 : Nat) (n2 : Nat) (s0 : ByteArray) (s1 : ByteArray) (b2 : Bool) (x3 : Int) (x4 : Int) (r5 : List (List D)) (x6 : Int) (x7 : Int) (x8 : Int) (x9 : Int)
  (r10 : List (List D)) : Option Out := Jn Γ shp n1 j60_11 (St.mk [(2, V.one (X.ptr 0 0)), (4, V.one (X.ptr 1 0)), (7, V.one (X.ptr 2 0)), (16, V.one (X.d (D.str s0))), (17, V.one (X.d (D.str
  s1))), (18, V.one (X.d (D.bool b2))), (21, V.one (X.d (D.int IntKind.i64 x3)))] [(0, Blk.mk [Lf.int IntKind.i64, Lf.lst 2] [X.d (D.int IntKind.i64 x4), X.d (D.list 2 r5)]), (1, Blk.mk
  [Lf.int IntKind.i64, Lf.int IntKind.i64, Lf.lst 3] [X.d (D.int IntKind.i64 x6), X.d (D.int IntKind.i64 x7), X.nilL 3]), (2, Blk.mk [Lf.int IntKind.i64, Lf.int IntKind.i64, Lf.lst 3] [X.d
  (D.int IntKind.i64 x8), X.d (D.int IntKind.i64 x9), X.own 0 36 3 r10])] [0] 3 1 0) (kLoop (loopK Γ shp n1) [2, 4, 7, 16, 17, 18, 21] lb60_1 (kBlk 3 (kSeq (some [4, 7]) (fun s K => Jn Γ shp
  n2 j60_12 s K) (finK (Sh.owns (shp 60)) (SFunc.results sf60) 0))))
noncomputable def l60_1_v1 (n0 : Nat) (Γ : SemL) (n2 : Nat) (s0 : ByteArray) (s1 : ByteArray) (b2 : Bool) (x3 : Int) (x4 : Int) (r5 : List (List D)) (x6 : Int) (x7 : Int) (x8 : Int) (x9 :
  Int) (r10 : List (List D)) : Option Out := loopK Γ shp n0 [2, 4, 7, 16, 17, 18, 21] lb60_1 (St.mk [(2, V.one (X.ptr 0 0)), (4, V.one (X.ptr 1 0)), (7, V.one (X.ptr 2 0)), (16, V.one (X.d
  (D.str s0))), (17, V.one (X.d (D.str s1))), (18, V.one (X.d (D.bool b2))), (21, V.one (X.d (D.int IntKind.i64 x3)))] [(0, Blk.mk [Lf.int IntKind.i64, Lf.lst 2] [X.d (D.int IntKind.i64 x4),
  X.d (D.list 2 r5)]), (1, Blk.mk [Lf.int IntKind.i64, Lf.int IntKind.i64, Lf.lst 3] [X.d (D.int IntKind.i64 x6), X.d (D.int IntKind.i64 x7), X.nilL 3]), (2, Blk.mk [Lf.int IntKind.i64,
  Lf.int IntKind.i64, Lf.lst 3] [X.d (D.int IntKind.i64 x8), X.d (D.int IntKind.i64 x9), X.own 0 36 3 r10])] [0] 3 1 0) (kBlk 3 (kSeq (some [4, 7]) (fun s K => Jn Γ shp n2 j60_12 s K) (finK
  (Sh.owns (shp 60)) (SFunc.results sf60) 0)))
noncomputable def q60_6_v1 (Γ : SemL) (n1 : Nat) (n2 : Nat) (s0 : ByteArray) (s1 : ByteArray) (x2 : Int) (x3 : Int) (r4 : List (List D)) (x5 : Int) (x6 : Int) (x7 : Int) (x8 : Int) (r9 : List
  (List D)) : Option Out := Jn Γ shp n1 j60_6 (St.mk [(2, V.one (X.ptr 0 0)), (4, V.one (X.ptr 1 0)), (7, V.one (X.ptr 2 0)), (16, V.one (X.d (D.str s0))), (17, V.one (X.d (D.str s1))), (21,
  V.one (X.d (D.int IntKind.i64 x2)))] [(0, Blk.mk [Lf.int IntKind.i64, Lf.lst 2] [X.d (D.int IntKind.i64 x3), X.d (D.list 2 r4)]), (1, Blk.mk [Lf.int IntKind.i64, Lf.int IntKind.i64, Lf.lst
  3] [X.d (D.int IntKind.i64 x5), X.d (D.int IntKind.i64 x6), X.nilL 3]), (2, Blk.mk [Lf.int IntKind.i64, Lf.int IntKind.i64, Lf.lst 3] [X.d (D.int IntKind.i64 x7), X.d (D.int IntKind.i64
  x8), X.own 0 36 3 r9])] [0] 3 1 0) (kLoop (loopK Γ shp n1) [2, 4, 7, 16, 17, 18, 21] lb60_1 (kBlk 3 (kSeq (some [4, 7]) (fun s K => Jn Γ shp n2 j60_12 s K) (finK (Sh.owns (shp 60))
  (SFunc.results sf60) 0))))
noncomputable def q60_12_v1 (Γ : SemL) (n1 : Nat) (x0 : Int) (x1 : Int) (x2 : Int) (x3 : Int) (r4 : List (List D)) : Option Out := Jn Γ shp n1 j60_12 (St.mk [(4, V.one (X.ptr 0 0)), (7, V.one
  (X.ptr 1 0))] [(0, Blk.mk [Lf.int IntKind.i64, Lf.int IntKind.i64, Lf.lst 3] [X.d (D.int IntKind.i64 x0), X.d (D.int IntKind.i64 x1), X.nilL 3]), (1, Blk.mk [Lf.int IntKind.i64, Lf.int
  IntKind.i64, Lf.lst 3] [X.d (D.int IntKind.i64 x2), X.d (D.int IntKind.i64 x3), X.own 0 36 3 r4])] [0] 2 1 0) (finK (Sh.owns (shp 60)) (SFunc.results sf60) 0)
noncomputable def q60_7_v1 (Γ : SemL) (n1 : Nat) (n2 : Nat) (s0 : ByteArray) (s1 : ByteArray) (x2 : Int) (x3 : Int) (r4 : List (List D)) (x5 : Int) (x6 : Int) (x7 : Int) (x8 : Int) (r9 : List
  (List D)) (y10 : D) (y11 : D) : Option Out := Jn Γ shp n1 j60_7 (St.mk [(2, V.one (X.ptr 0 0)), (4, V.one (X.ptr 1 0)), (7, V.one (X.ptr 2 0)), (16, V.one (X.d (D.str s0))), (17, V.one (X.d
  (D.str s1))), (21, V.one (X.d (D.int IntKind.i64 x2))), (22, V.one (X.ptr 3 0))] [(0, Blk.mk [Lf.int IntKind.i64, Lf.lst 2] [X.d (D.int IntKind.i64 x3), X.d (D.list 2 r4)]), (1, Blk.mk
  [Lf.int IntKind.i64, Lf.int IntKind.i64, Lf.lst 3] [X.d (D.int IntKind.i64 x5), X.d (D.int IntKind.i64 x6), X.nilL 3]), (2, Blk.mk [Lf.int IntKind.i64, Lf.int IntKind.i64, Lf.lst 3] [X.d
  (D.int IntKind.i64 x7), X.d (D.int IntKind.i64 x8), X.own 0 36 3 r9]), (3, Blk.mk [Lf.int IntKind.i64, Lf.lst 2] [X.d y10, X.d y11])] [0] 4 1 0) (kSeq (some [2, 4, 7, 16, 17, 21, 22]) (fun
  s K => Jn Γ shp n1 j60_8 s K) (kBlk 4 (kSeq (some [2, 4, 7, 16, 17, 18, 21]) (fun s K => Jn Γ shp n1 j60_11 s K) (kLoop (loopK Γ shp n1) [2, 4, 7, 16, 17, 18, 21] lb60_1 (kBlk 3 (kSeq (some
  [4, 7]) (fun s K => Jn Γ shp n2 j60_12 s K) (finK (Sh.owns (shp 60)) (SFunc.results sf60) 0)))))))
noncomputable def q60_8_v1 (Γ : SemL) (n1 : Nat) (n2 : Nat) (s0 : ByteArray) (s1 : ByteArray) (x2 : Int) (x3 : Int) (r4 : List (List D)) (x5 : Int) (x6 : Int) (x7 : Int) (x8 : Int) (r9 : List
  (List D)) (y10 : D) (y11 : D) : Option Out := Jn Γ shp n1 j60_8 (St.mk [(2, V.one (X.ptr 0 0)), (4, V.one (X.ptr 1 0)), (7, V.one (X.ptr 2 0)), (16, V.one (X.d (D.str s0))), (17, V.one (X.d
  (D.str s1))), (21, V.one (X.d (D.int IntKind.i64 x2))), (22, V.one (X.ptr 3 0))] [(0, Blk.mk [Lf.int IntKind.i64, Lf.lst 2] [X.d (D.int IntKind.i64 x3), X.d (D.list 2 r4)]), (1, Blk.mk
  [Lf.int IntKind.i64, Lf.int IntKind.i64, Lf.lst 3] [X.d (D.int IntKind.i64 x5), X.d (D.int IntKind.i64 x6), X.nilL 3]), (2, Blk.mk [Lf.int IntKind.i64, Lf.int IntKind.i64, Lf.lst 3] [X.d
  (D.int IntKind.i64 x7), X.d (D.int IntKind.i64 x8), X.own 0 36 3 r9]), (3, Blk.mk [Lf.int IntKind.i64, Lf.lst 2] [X.d y10, X.d y11])] [0] 4 1 0) (kBlk 4 (kSeq (some [2, 4, 7, 16, 17, 18,
  21]) (fun s K => Jn Γ shp n1 j60_11 s K) (kLoop (loopK Γ shp n1) [2, 4, 7, 16, 17, 18, 21] lb60_1 (kBlk 3 (kSeq (some [4, 7]) (fun s K => Jn Γ shp n2 j60_12 s K) (finK (Sh.owns (shp 60))
  (SFunc.results sf60) 0))))))
noncomputable def q60_9_v1 (Γ : SemL) (n1 : Nat) (n2 : Nat) (s0 : ByteArray) (s1 : ByteArray) (x2 : Int) (x3 : Int) (r4 : List (List D)) (x5 : Int) (x6 : Int) (x7 : Int) (x8 : Int) (r9 : List
  (List D)) (x10 : Int) (x11 : Int) (r12 : List (List D)) : Option Out := Jn Γ shp n1 j60_9 (St.mk [(2, V.one (X.ptr 0 0)), (4, V.one (X.ptr 1 0)), (7, V.one (X.ptr 2 0)), (16, V.one (X.d
  (D.str s0))), (17, V.one (X.d (D.str s1))), (21, V.one (X.d (D.int IntKind.i64 x2))), (23, V.one (X.ptr 3 0))] [(0, Blk.mk [Lf.int IntKind.i64, Lf.lst 2] [X.d (D.int IntKind.i64 x3), X.d
  (D.list 2 r4)]), (1, Blk.mk [Lf.int IntKind.i64, Lf.int IntKind.i64, Lf.lst 3] [X.d (D.int IntKind.i64 x5), X.d (D.int IntKind.i64 x6), X.nilL 3]), (2, Blk.mk [Lf.int IntKind.i64, Lf.int
  IntKind.i64, Lf.lst 3] [X.d (D.int IntKind.i64 x7), X.d (D.int IntKind.i64 x8), X.own 0 36 3 r9]), (3, Blk.mk [Lf.int IntKind.i64, Lf.int IntKind.i64, Lf.lst 3] [X.d (D.int IntKind.i64
  x10), X.d (D.int IntKind.i64 x11), X.d (D.list 3 r12)])] [0] 4 1 0) (kBlk 4 (kSeq (some [2, 4, 7, 16, 17, 18, 21]) (fun s K => Jn Γ shp n1 j60_11 s K) (kLoop (loopK Γ shp n1) [2, 4, 7, 16,
  17, 18, 21] lb60_1 (kBlk 3 (kSeq (some [4, 7]) (fun s K => Jn Γ shp n2 j60_12 s K) (finK (Sh.owns (shp 60)) (SFunc.results sf60) 0))))))
theorem e34_eq (Γ : SemL) (n1 : Nat) (x0 : Int) (r1 : List (List D)) (s2 : ByteArray) : e34 Γ n1 x0 r1 s2 = r_oB (Γ 16 [V.agg [X.d (D.int IntKind.i64 x0), X.d (D.list 2 r1)]] []) [] fun c1_
  => bif !c1_ then some (Out.mk true (V.tup [V.agg [X.d (D.int IntKind.i64 0), X.d (D.int IntKind.i64 0), X.d (D.list 3 [])], V.one (X.d (D.int IntKind.i64 1))]) D.junk [] 0) else q34_0 Γ n1
  s2 x0 r1 0 0 := (run_step ..).trans (by kernel_rfl)
theorem e36_eq (Γ : SemL) (n1 : Nat) (x0 : Int) (x1 : Int) (r2 : List (List D)) : e36 Γ n1 x0 x1 r2 = l36_0 n1 Γ n1 r2 (Int.ofNat (List.length r2)) 0 x0 x1 r2 := (run_step ..).trans (by
  kernel_rfl)
theorem q34_0_eq (Γ : SemL) (n1 : Nat) (s0 : ByteArray) (x1 : Int) (r2 : List (List D)) (x3 : Int) (x4 : Int) : q34_0 Γ n1 s0 x1 r2 x3 x4 = r_t3a3IIL3oSoB (Γ 60 [V.agg [X.d (D.int IntKind.i64
  x1), X.d (D.list 2 r2)], V.one (X.d (D.str s0))] []) [] fun i2_ i3_ w4_ u5_ c6_ => bif !c6_ then some (Out.mk true (V.tup [V.agg [X.d (D.int IntKind.i64 0), X.d (D.int IntKind.i64 0), X.d
  (D.list 3 [])], V.one (X.d (D.int IntKind.i64 33))]) D.junk [] 0) else bif !beqL (Array.toList (ByteArray.data u5_)) (Array.toList (ByteArray.data (ByteArray.mk #[]))) then some (Out.mk
  true (V.tup [V.agg [X.d (D.int IntKind.i64 0), X.d (D.int IntKind.i64 0), X.d (D.list 3 [])], V.one (X.d (D.int IntKind.i64 33))]) D.junk [] 0) else r_oB (Γ 24 [V.agg [X.d (D.int
  IntKind.i64 x1), X.d (D.list 2 r2)], V.agg [X.d (D.int IntKind.i64 i2_), X.d (D.int IntKind.i64 i3_), X.d (D.list 3 w4_)]] []) [] fun c1_ => bif !c1_ then some (Out.mk true (V.tup [V.agg
  [X.d (D.int IntKind.i64 0), X.d (D.int IntKind.i64 0), X.d (D.list 3 [])], V.one (X.d (D.int IntKind.i64 33))]) D.junk [] 0) else q34_1 Γ n1 x3 x4 i2_ i3_ w4_ := (Jn_step ..).trans (by
  kernel_rfl)
theorem l36_0_eq (n0 : Nat) (Γ : SemL) (n2 : Nat) (r0 : List (List D)) (x1 : Int) (x2 : Int) (x3 : Int) (x4 : Int) (r5 : List (List D)) : l36_0 (n0 + 1) Γ n2 r0 x1 x2 x3 x4 r5 = bif decide
  (x2 < x1) then q36_0 Γ n0 n2 r0 x1 x2 x3 x4 r5 else q36_2 Γ n2 x3 x4 r5 := (loop_step ..).trans (by kernel_rfl)
theorem e60_eq (Γ : SemL) (n1 : Nat) (x0 : Int) (r1 : List (List D)) (s2 : ByteArray) : e60 Γ n1 x0 r1 s2 = bif x0 == 1 then r_t2oSoB (Γ 65 [V.one (X.d (D.str s2)), V.one (X.d (D.str
  (ByteArray.mk #[116, 114, 117, 101])))] []) [] fun u1_ c2_ => bif c2_ then some (Out.mk true (V.tup [V.agg [X.d (D.int IntKind.i64 x0), X.d (D.int IntKind.i64 1), X.d (D.list 3 [])], V.one
  (X.d (D.str u1_)), V.one (X.d (D.bool true))]) D.junk [] 0) else q60_0 Γ n1 s2 0 0 x0 0 else bif x0 == 2 then l60_0 n1 Γ n1 s2 0 0 0 x0 0 else q60_3 Γ n1 s2 x0 r1 0 0 x0 0 := (run_step
  ..).trans (by kernel_rfl)
theorem q34_1_eq (Γ : SemL) (n1 : Nat) (x0 : Int) (x1 : Int) (x2 : Int) (x3 : Int) (r4 : List (List D)) : q34_1 Γ n1 x0 x1 x2 x3 r4 = some (Out.mk true (V.tup [V.agg [X.d (D.int IntKind.i64
  x2), X.d (D.int IntKind.i64 x3), X.d (D.list 3 r4)], V.one (X.d (D.int IntKind.i64 0))]) D.junk [] 0) := (Jn_step ..).trans (by kernel_rfl)
theorem q36_0_eq (Γ : SemL) (n1 : Nat) (n2 : Nat) (r0 : List (List D)) (x1 : Int) (x2 : Int) (x3 : Int) (x4 : Int) (r5 : List (List D)) : q36_0 Γ n1 n2 r0 x1 x2 x3 x4 r5 = bif decide (0 ≤ x2)
  && decide (x2 < Int.ofNat (List.length r0)) then r_oS (Γ 36 [V.agg [X.d (List.getD (List.getD r0 (Int.toNat x2) []) 0 D.junk), X.d (List.getD (List.getD r0 (Int.toNat x2) []) 1 D.junk), X.d
  (List.getD (List.getD r0 (Int.toNat x2) []) 2 D.junk)]] []) [] fun u1_ => q36_1 Γ n1 n2 [[D.str u1_]] r0 x1 x2 x3 x4 r5 else none := (Jn_step ..).trans (by kernel_rfl)
theorem q36_2_eq (Γ : SemL) (n1 : Nat) (x0 : Int) (x1 : Int) (r2 : List (List D)) : q36_2 Γ n1 x0 x1 r2 = r_oS (Γ 48 [V.one (X.nilL 1), V.one (X.d (D.str (ByteArray.mk #[44, 32])))] []) []
  fun u3_ => bif x0 == 1 then r_oS (Γ 62 [V.one (X.d (D.bool (x1 != 0)))] []) [] fun u1_ => some (Out.mk true (V.one (X.d (D.str u1_))) D.junk [] 0) else bif x0 == 2 then r_oS (Γ 63 [V.one
  (X.d (D.int IntKind.i64 x1))] []) [] fun u2_ => some (Out.mk true (V.one (X.d (D.str u2_))) D.junk [] 0) else bif x0 == 3 then bif Nat.ble (1 + ByteArray.size u3_) 9223372036854775807 then
  bif Nat.ble (ByteArray.size (ByteArray.mk #[40] ++ u3_) + 1) 9223372036854775807 then some (Out.mk true (V.one (X.d (D.str (ByteArray.mk #[40] ++ u3_ ++ ByteArray.mk #[41])))) D.junk [] 0)
  else none else none else bif x0 == 4 then bif Nat.ble (1 + ByteArray.size u3_) 9223372036854775807 then bif Nat.ble (ByteArray.size (ByteArray.mk #[91] ++ u3_) + 1) 9223372036854775807 then
  some (Out.mk true (V.one (X.d (D.str (ByteArray.mk #[91] ++ u3_ ++ ByteArray.mk #[93])))) D.junk [] 0) else none else none else q36_3 Γ n1 := (Jn_step ..).trans (by kernel_rfl)
theorem q60_0_eq (Γ : SemL) (n1 : Nat) (s0 : ByteArray) (x1 : Int) (x2 : Int) (x3 : Int) (x4 : Int) : q60_0 Γ n1 s0 x1 x2 x3 x4 = r_t2oSoB (Γ 65 [V.one (X.d (D.str s0)), V.one (X.d (D.str
  (ByteArray.mk #[102, 97, 108, 115, 101])))] []) [] fun u1_ c2_ => some (Out.mk true (V.tup [V.agg [X.d (D.int IntKind.i64 x3), X.d (D.int IntKind.i64 x4), X.d (D.list 3 [])], V.one (X.d
  (D.str u1_)), V.one (X.d (D.bool c2_))]) D.junk [] 0) := (Jn_step ..).trans (by kernel_rfl)
theorem l60_0_eq (n0 : Nat) (Γ : SemL) (n2 : Nat) (s0 : ByteArray) (x1 : Int) (x2 : Int) (x3 : Int) (x4 : Int) (x5 : Int) : l60_0 (n0 + 1) Γ n2 s0 x1 x2 x3 x4 x5 = bif decide (x1 < Int.ofNat
  (ByteArray.size s0)) then bif decide (x1 < 11) then bif decide (0 ≤ x1) && decide (x1 < Int.ofNat (ByteArray.size s0)) then bif Int.ofNat (UInt8.toNat (ByteArray.get! s0 (Int.toNat x1))) ==
  45 then q60_1 Γ n0 n2 s0 x1 x2 x3 x4 x5 else bif decide (0 ≤ x1) && decide (x1 < Int.ofNat (ByteArray.size s0)) then bif decide (Int.ofNat (UInt8.toNat (ByteArray.get! s0 (Int.toNat x1))) ≥
  48) then bif decide (0 ≤ x1) && decide (x1 < Int.ofNat (ByteArray.size s0)) then bif decide (Int.ofNat (UInt8.toNat (ByteArray.get! s0 (Int.toNat x1))) ≤ 57) then q60_1 Γ n0 n2 s0 x1 x2 x3
  x4 x5 else q60_2 Γ n2 s0 x1 x2 x3 x4 x5 else none else q60_2 Γ n2 s0 x1 x2 x3 x4 x5 else none else none else q60_2 Γ n2 s0 x1 x2 x3 x4 x5 else q60_2 Γ n2 s0 x1 x2 x3 x4 x5 := (loop_step
  ..).trans (by kernel_rfl)
theorem q60_3_eq (Γ : SemL) (n1 : Nat) (s0 : ByteArray) (x1 : Int) (r2 : List (List D)) (x3 : Int) (x4 : Int) (x5 : Int) (x6 : Int) : q60_3 Γ n1 s0 x1 r2 x3 x4 x5 x6 = bif x1 == 4 then q60_4
  Γ n1 s0 (ByteArray.mk #[91]) (ByteArray.mk #[93]) x1 r2 x3 x4 x5 x6 else q60_4 Γ n1 s0 (ByteArray.mk #[40]) (ByteArray.mk #[41]) x1 r2 x3 x4 x5 x6 := (Jn_step ..).trans (by kernel_rfl)
theorem q36_1_eq (Γ : SemL) (n1 : Nat) (n2 : Nat) (r0 : List (List D)) (r1 : List (List D)) (x2 : Int) (x3 : Int) (x4 : Int) (x5 : Int) (r6 : List (List D)) : q36_1 Γ n1 n2 r0 r1 x2 x3 x4 x5
  r6 = l36_0_v1 n1 Γ n2 r0 r1 x2 (IntKind.wrap IntKind.i64 (x3 + 1)) x4 x5 r6 := (Jn_step ..).trans (by kernel_rfl)
theorem e62_eq (Γ : SemL) (n1 : Nat) (b0 : Bool) : e62 Γ n1 b0 = r_oS (Γ 80 [V.one (X.d (D.bool b0))] []) [] fun u1_ => some (Out.mk true (V.one (X.d (D.str u1_))) D.junk [] 0) := (run_step
  ..).trans (by kernel_rfl)
theorem q36_3_eq (Γ : SemL) (n1 : Nat) : q36_3 Γ n1 = some (Out.mk true (V.one (X.d (D.str (ByteArray.mk #[63])))) D.junk [] 0) := (Jn_step ..).trans (by kernel_rfl)
theorem q60_1_eq (Γ : SemL) (n1 : Nat) (n2 : Nat) (s0 : ByteArray) (x1 : Int) (x2 : Int) (x3 : Int) (x4 : Int) (x5 : Int) : q60_1 Γ n1 n2 s0 x1 x2 x3 x4 x5 = l60_0 n1 Γ n2 s0 (IntKind.wrap
  IntKind.i64 (x1 + 1)) x2 x3 x4 x5 := (Jn_step ..).trans (by kernel_rfl)
theorem q60_2_eq (Γ : SemL) (n1 : Nat) (s0 : ByteArray) (x1 : Int) (x2 : Int) (x3 : Int) (x4 : Int) (x5 : Int) : q60_2 Γ n1 s0 x1 x2 x3 x4 x5 = bif decide (0 ≤ x1) && decide (x1 ≤ Int.ofNat
  (ByteArray.size s0)) && true && decide (0 ≤ x1) then r_t2oIoD (Γ 78 [V.one (X.d (D.str (ByteArray.extract s0 0 (Int.toNat x1))))] []) [] fun i1_ d2_ => bif decide (0 ≤ Int.ofNat
  (ByteArray.size s0)) && decide (Int.ofNat (ByteArray.size s0) ≤ Int.ofNat (ByteArray.size s0)) && decide (0 ≤ x1) && decide (x1 ≤ Int.ofNat (ByteArray.size s0)) then bif D.isNilI d2_ then
  Option.bind (Γ 63 [V.one (X.d (D.int IntKind.i64 i1_))] []) fun o2_ => bif Out.ok o2_ then bif V.isOne (Out.val o2_) then bif X.isD (X.cell (Out.val o2_) 0) && D.isStr (X.dd (X.cell
  (Out.val o2_) 0)) then bif Nat.beq (Out.m o2_) 0 && true then bif decide (0 ≤ x1) && decide (x1 ≤ Int.ofNat (ByteArray.size s0)) && true && decide (0 ≤ x1) then some (Out.mk true (V.tup
  [V.agg [X.d (D.int IntKind.i64 x4), X.d (D.int IntKind.i64 i1_), X.d (D.list 3 [])], V.one (X.d (D.str (ByteArray.extract s0 (Int.toNat x1) (Int.toNat (Int.ofNat (ByteArray.size s0)))))),
  V.one (X.d (D.bool (beqL (Array.toList (ByteArray.data (D.bytes (X.dd (X.cell (Out.val o2_) 0))))) (Array.toList (ByteArray.data (ByteArray.extract s0 0 (Int.toNat x1)))))))]) D.junk [] 0)
  else none else none else none else none else bif decide (0 ≤ x1) && decide (x1 ≤ Int.ofNat (ByteArray.size s0)) && true && decide (0 ≤ x1) then some (Out.mk false V.junk (Out.pv o2_) [] 0)
  else none else bif D.isI d2_ then some (Out.mk true (V.tup [V.agg [X.d (D.int IntKind.i64 x4), X.d (D.int IntKind.i64 i1_), X.d (D.list 3 [])], V.one (X.d (D.str (ByteArray.extract s0
  (Int.toNat x1) (Int.toNat (Int.ofNat (ByteArray.size s0)))))), V.one (X.d (D.bool false))]) D.junk [] 0) else none else none else none := (Jn_step ..).trans (by kernel_rfl)
theorem q60_4_eq (Γ : SemL) (n1 : Nat) (s0 : ByteArray) (s1 : ByteArray) (s2 : ByteArray) (x3 : Int) (r4 : List (List D)) (x5 : Int) (x6 : Int) (x7 : Int) (x8 : Int) : q60_4 Γ n1 s0 s1 s2 x3
  r4 x5 x6 x7 x8 = r_t2oSoB (Γ 65 [V.one (X.d (D.str s0)), V.one (X.d (D.str s1))] []) [] fun u3_ c4_ => r_t2oSoB (Γ 65 [V.one (X.d (D.str u3_)), V.one (X.d (D.str s2))] []) [] fun u1_ c2_ =>
  bif c4_ then bif c2_ then bif x3 == 4 then some (Out.mk true (V.tup [V.agg [X.d (D.int IntKind.i64 x7), X.d (D.int IntKind.i64 x8), X.d (D.list 3 [])], V.one (X.d (D.str u1_)), V.one (X.d
  (D.bool true))]) D.junk [] 0) else q60_5 Γ n1 s2 u3_ c4_ x3 r4 x5 x6 x7 x8 else q60_5 Γ n1 s2 u3_ c4_ x3 r4 x5 x6 x7 x8 else q60_5 Γ n1 s2 u3_ c4_ x3 r4 x5 x6 x7 x8 := (Jn_step ..).trans
  (by kernel_rfl)
theorem l36_0_v1_eq (n0 : Nat) (Γ : SemL) (n2 : Nat) (r0 : List (List D)) (r1 : List (List D)) (x2 : Int) (x3 : Int) (x4 : Int) (x5 : Int) (r6 : List (List D)) : l36_0_v1 (n0 + 1) Γ n2 r0 r1
  x2 x3 x4 x5 r6 = bif decide (x3 < x2) then q36_0_v1 Γ n0 n2 r0 r1 x2 x3 x4 x5 r6 else q36_2_v1 Γ n2 r0 x4 x5 r6 := (loop_step ..).trans (by kernel_rfl)
theorem e80_eq (Γ : SemL) (n1 : Nat) (b0 : Bool) : e80 Γ n1 b0 = bif b0 then some (Out.mk true (V.one (X.d (D.str (ByteArray.mk #[116, 114, 117, 101])))) D.junk [] 0) else q80_0 Γ n1 :=
  (run_step ..).trans (by kernel_rfl)
theorem q60_5_eq (Γ : SemL) (n1 : Nat) (s0 : ByteArray) (s1 : ByteArray) (b2 : Bool) (x3 : Int) (r4 : List (List D)) (x5 : Int) (x6 : Int) (x7 : Int) (x8 : Int) : q60_5 Γ n1 s0 s1 b2 x3 r4 x5
  x6 x7 x8 = l60_1 n1 Γ n1 s0 s1 b2 0 x3 r4 x5 x6 x7 x8 := (Jn_step ..).trans (by kernel_rfl)
theorem q36_0_v1_eq (Γ : SemL) (n1 : Nat) (n2 : Nat) (r0 : List (List D)) (r1 : List (List D)) (x2 : Int) (x3 : Int) (x4 : Int) (x5 : Int) (r6 : List (List D)) : q36_0_v1 Γ n1 n2 r0 r1 x2 x3
  x4 x5 r6 = bif decide (0 ≤ x3) && decide (x3 < Int.ofNat (List.length r1)) then r_oS (Γ 36 [V.agg [X.d (List.getD (List.getD r1 (Int.toNat x3) []) 0 D.junk), X.d (List.getD (List.getD r1
  (Int.toNat x3) []) 1 D.junk), X.d (List.getD (List.getD r1 (Int.toNat x3) []) 2 D.junk)]] []) [] fun u1_ => bif true && true && true && Nat.ble ((List.length r0 + List.length [[D.str u1_]])
  * 17) 140737488355328 then q36_1 Γ n1 n2 (r0 ++ [[D.str u1_]]) r1 x2 x3 x4 x5 r6 else none else none := (Jn_step ..).trans (by kernel_rfl)
theorem q36_2_v1_eq (Γ : SemL) (n1 : Nat) (r0 : List (List D)) (x1 : Int) (x2 : Int) (r3 : List (List D)) : q36_2_v1 Γ n1 r0 x1 x2 r3 = r_oS (Γ 48 [V.one (X.d (D.list 1 r0)), V.one (X.d
  (D.str (ByteArray.mk #[44, 32])))] []) [] fun u3_ => bif x1 == 1 then r_oS (Γ 62 [V.one (X.d (D.bool (x2 != 0)))] []) [] fun u1_ => some (Out.mk true (V.one (X.d (D.str u1_))) D.junk [] 0)
  else bif x1 == 2 then r_oS (Γ 63 [V.one (X.d (D.int IntKind.i64 x2))] []) [] fun u2_ => some (Out.mk true (V.one (X.d (D.str u2_))) D.junk [] 0) else bif x1 == 3 then bif Nat.ble (1 +
  ByteArray.size u3_) 9223372036854775807 then bif Nat.ble (ByteArray.size (ByteArray.mk #[40] ++ u3_) + 1) 9223372036854775807 then some (Out.mk true (V.one (X.d (D.str (ByteArray.mk #[40]
  ++ u3_ ++ ByteArray.mk #[41])))) D.junk [] 0) else none else none else bif x1 == 4 then bif Nat.ble (1 + ByteArray.size u3_) 9223372036854775807 then bif Nat.ble (ByteArray.size
  (ByteArray.mk #[91] ++ u3_) + 1) 9223372036854775807 then some (Out.mk true (V.one (X.d (D.str (ByteArray.mk #[91] ++ u3_ ++ ByteArray.mk #[93])))) D.junk [] 0) else none else none else
  q36_3 Γ n1 := (Jn_step ..).trans (by kernel_rfl)
theorem q80_0_eq (Γ : SemL) (n1 : Nat) : q80_0 Γ n1 = some (Out.mk true (V.one (X.d (D.str (ByteArray.mk #[102, 97, 108, 115, 101])))) D.junk [] 0) := (Jn_step ..).trans (by kernel_rfl)
theorem l60_1_eq (n0 : Nat) (Γ : SemL) (n2 : Nat) (s0 : ByteArray) (s1 : ByteArray) (b2 : Bool) (x3 : Int) (x4 : Int) (r5 : List (List D)) (x6 : Int) (x7 : Int) (x8 : Int) (x9 : Int) : l60_1
  (n0 + 1) Γ n2 s0 s1 b2 x3 x4 r5 x6 x7 x8 x9 = bif b2 then q60_6 Γ n0 n2 s0 s1 x3 x4 r5 x6 x7 x8 x9 else q60_12 Γ n2 x6 x7 x8 x9 := (loop_step ..).trans (by kernel_rfl)
theorem q60_6_eq (Γ : SemL) (n1 : Nat) (n2 : Nat) (s0 : ByteArray) (s1 : ByteArray) (x2 : Int) (x3 : Int) (r4 : List (List D)) (x5 : Int) (x6 : Int) (x7 : Int) (x8 : Int) : q60_6 Γ n1 n2 s0
  s1 x2 x3 r4 x5 x6 x7 x8 = bif true && decide (0 < Int.ofNat (List.length r4)) then bif x3 == 3 then bif x2 == Int.ofNat (List.length r4) then some (Out.mk true (V.tup [V.agg [X.d (D.int
  IntKind.i64 x7), X.d (D.int IntKind.i64 x8), X.d (D.list 3 [])], V.one (X.d (D.str (ByteArray.mk #[]))), V.one (X.d (D.bool false))]) D.junk [] 0) else q60_7 Γ n1 n2 s0 s1 x2 x3 r4 x5 x6 x7
  x8 (List.getD (List.getD r4 0 []) 0 D.junk) (List.getD (List.getD r4 0 []) 1 D.junk) else q60_8 Γ n1 n2 s0 s1 x2 x3 r4 x5 x6 x7 x8 (List.getD (List.getD r4 0 []) 0 D.junk) (List.getD
  (List.getD r4 0 []) 1 D.junk) else none := (Jn_step ..).trans (by kernel_rfl)
theorem q60_12_eq (Γ : SemL) (n1 : Nat) (x0 : Int) (x1 : Int) (x2 : Int) (x3 : Int) : q60_12 Γ n1 x0 x1 x2 x3 = some (Out.mk true (V.tup [V.agg [X.d (D.int IntKind.i64 x2), X.d (D.int
  IntKind.i64 x3), X.d (D.list 3 [])], V.one (X.d (D.str (ByteArray.mk #[]))), V.one (X.d (D.bool false))]) D.junk [] 0) := (Jn_step ..).trans (by kernel_rfl)
theorem q60_7_eq (Γ : SemL) (n1 : Nat) (n2 : Nat) (s0 : ByteArray) (s1 : ByteArray) (x2 : Int) (x3 : Int) (r4 : List (List D)) (x5 : Int) (x6 : Int) (x7 : Int) (x8 : Int) (y9 : D) (y10 : D) :
  q60_7 Γ n1 n2 s0 s1 x2 x3 r4 x5 x6 x7 x8 y9 y10 = bif decide (0 ≤ x2) && decide (x2 < Int.ofNat (List.length r4)) then q60_8 Γ n1 n2 s0 s1 x2 x3 r4 x5 x6 x7 x8 (List.getD (List.getD r4
  (Int.toNat x2) []) 0 D.junk) (List.getD (List.getD r4 (Int.toNat x2) []) 1 D.junk) else none := (Jn_step ..).trans (by kernel_rfl)
theorem q60_8_eq (Γ : SemL) (n1 : Nat) (n2 : Nat) (s0 : ByteArray) (s1 : ByteArray) (x2 : Int) (x3 : Int) (r4 : List (List D)) (x5 : Int) (x6 : Int) (x7 : Int) (x8 : Int) (y9 : D) (y10 : D) :
  q60_8 Γ n1 n2 s0 s1 x2 x3 r4 x5 x6 x7 x8 y9 y10 = r_t3a3IIL3oSoB (Γ 60 [V.agg [X.d y9, X.d y10], V.one (X.d (D.str s1))] []) [] fun i1_ i2_ w3_ u4_ c5_ => bif !c5_ then q60_12 Γ n2 x5 x6 x7
  x8 else q60_9 Γ n1 n2 s0 u4_ x2 x3 r4 x5 x6 x7 x8 i1_ i2_ w3_ := (Jn_step ..).trans (by kernel_rfl)
theorem q60_9_eq (Γ : SemL) (n1 : Nat) (n2 : Nat) (s0 : ByteArray) (s1 : ByteArray) (x2 : Int) (x3 : Int) (r4 : List (List D)) (x5 : Int) (x6 : Int) (x7 : Int) (x8 : Int) (x9 : Int) (x10 :
  Int) (r11 : List (List D)) : q60_9 Γ n1 n2 s0 s1 x2 x3 r4 x5 x6 x7 x8 x9 x10 r11 = r_t2oSoB (Γ 65 [V.one (X.d (D.str s1)), V.one (X.d (D.str s0))] []) [] fun u1_ c2_ => bif c2_ then some
  (Out.mk true (V.tup [V.agg [X.d (D.int IntKind.i64 x7), X.d (D.int IntKind.i64 x8), X.d (D.list 3 [[D.int IntKind.i64 x9, D.int IntKind.i64 x10, D.list 3 r11]])], V.one (X.d (D.str u1_)),
  V.one (X.d (D.bool true))]) D.junk [] 0) else q60_10 Γ n1 n2 s0 s1 x2 x3 r4 x5 x6 x7 x8 [[D.int IntKind.i64 x9, D.int IntKind.i64 x10, D.list 3 r11]] := (Jn_step ..).trans (by kernel_rfl)
theorem q60_10_eq (Γ : SemL) (n1 : Nat) (n2 : Nat) (s0 : ByteArray) (s1 : ByteArray) (x2 : Int) (x3 : Int) (r4 : List (List D)) (x5 : Int) (x6 : Int) (x7 : Int) (x8 : Int) (r9 : List (List
  D)) : q60_10 Γ n1 n2 s0 s1 x2 x3 r4 x5 x6 x7 x8 r9 = r_t2oSoB (Γ 65 [V.one (X.d (D.str s1)), V.one (X.d (D.str (ByteArray.mk #[44, 32])))] []) [] fun u1_ c2_ => q60_11 Γ n1 n2 s0 u1_ c2_ x2
  x3 r4 x5 x6 x7 x8 r9 := (Jn_step ..).trans (by kernel_rfl)
theorem q60_11_eq (Γ : SemL) (n1 : Nat) (n2 : Nat) (s0 : ByteArray) (s1 : ByteArray) (b2 : Bool) (x3 : Int) (x4 : Int) (r5 : List (List D)) (x6 : Int) (x7 : Int) (x8 : Int) (x9 : Int) (r10 :
  List (List D)) : q60_11 Γ n1 n2 s0 s1 b2 x3 x4 r5 x6 x7 x8 x9 r10 = l60_1_v1 n1 Γ n2 s0 s1 b2 (IntKind.wrap IntKind.i64 (x3 + 1)) x4 r5 x6 x7 x8 x9 r10 := (Jn_step ..).trans (by kernel_rfl)
theorem l60_1_v1_eq (n0 : Nat) (Γ : SemL) (n2 : Nat) (s0 : ByteArray) (s1 : ByteArray) (b2 : Bool) (x3 : Int) (x4 : Int) (r5 : List (List D)) (x6 : Int) (x7 : Int) (x8 : Int) (x9 : Int) (r10
  : List (List D)) : l60_1_v1 (n0 + 1) Γ n2 s0 s1 b2 x3 x4 r5 x6 x7 x8 x9 r10 = bif b2 then q60_6_v1 Γ n0 n2 s0 s1 x3 x4 r5 x6 x7 x8 x9 r10 else q60_12_v1 Γ n2 x6 x7 x8 x9 r10 := (loop_step
  ..).trans (by kernel_rfl)
theorem q60_6_v1_eq (Γ : SemL) (n1 : Nat) (n2 : Nat) (s0 : ByteArray) (s1 : ByteArray) (x2 : Int) (x3 : Int) (r4 : List (List D)) (x5 : Int) (x6 : Int) (x7 : Int) (x8 : Int) (r9 : List (List
  D)) : q60_6_v1 Γ n1 n2 s0 s1 x2 x3 r4 x5 x6 x7 x8 r9 = bif true && decide (0 < Int.ofNat (List.length r4)) then bif x3 == 3 then bif x2 == Int.ofNat (List.length r4) then some (Out.mk true
  (V.tup [V.agg [X.d (D.int IntKind.i64 x7), X.d (D.int IntKind.i64 x8), X.d (D.list 3 r9)], V.one (X.d (D.str (ByteArray.mk #[]))), V.one (X.d (D.bool false))]) D.junk [] 0) else q60_7_v1 Γ
  n1 n2 s0 s1 x2 x3 r4 x5 x6 x7 x8 r9 (List.getD (List.getD r4 0 []) 0 D.junk) (List.getD (List.getD r4 0 []) 1 D.junk) else q60_8_v1 Γ n1 n2 s0 s1 x2 x3 r4 x5 x6 x7 x8 r9 (List.getD
  (List.getD r4 0 []) 0 D.junk) (List.getD (List.getD r4 0 []) 1 D.junk) else none := (Jn_step ..).trans (by kernel_rfl)
theorem q60_12_v1_eq (Γ : SemL) (n1 : Nat) (x0 : Int) (x1 : Int) (x2 : Int) (x3 : Int) (r4 : List (List D)) : q60_12_v1 Γ n1 x0 x1 x2 x3 r4 = some (Out.mk true (V.tup [V.agg [X.d (D.int
  IntKind.i64 x2), X.d (D.int IntKind.i64 x3), X.d (D.list 3 r4)], V.one (X.d (D.str (ByteArray.mk #[]))), V.one (X.d (D.bool false))]) D.junk [] 0) := (Jn_step ..).trans (by kernel_rfl)
theorem q60_7_v1_eq (Γ : SemL) (n1 : Nat) (n2 : Nat) (s0 : ByteArray) (s1 : ByteArray) (x2 : Int) (x3 : Int) (r4 : List (List D)) (x5 : Int) (x6 : Int) (x7 : Int) (x8 : Int) (r9 : List (List
  D)) (y10 : D) (y11 : D) : q60_7_v1 Γ n1 n2 s0 s1 x2 x3 r4 x5 x6 x7 x8 r9 y10 y11 = bif decide (0 ≤ x2) && decide (x2 < Int.ofNat (List.length r4)) then q60_8_v1 Γ n1 n2 s0 s1 x2 x3 r4 x5 x6
  x7 x8 r9 (List.getD (List.getD r4 (Int.toNat x2) []) 0 D.junk) (List.getD (List.getD r4 (Int.toNat x2) []) 1 D.junk) else none := (Jn_step ..).trans (by kernel_rfl)
theorem q60_8_v1_eq (Γ : SemL) (n1 : Nat) (n2 : Nat) (s0 : ByteArray) (s1 : ByteArray) (x2 : Int) (x3 : Int) (r4 : List (List D)) (x5 : Int) (x6 : Int) (x7 : Int) (x8 : Int) (r9 : List (List
  D)) (y10 : D) (y11 : D) : q60_8_v1 Γ n1 n2 s0 s1 x2 x3 r4 x5 x6 x7 x8 r9 y10 y11 = r_t3a3IIL3oSoB (Γ 60 [V.agg [X.d y10, X.d y11], V.one (X.d (D.str s1))] []) [] fun i1_ i2_ w3_ u4_ c5_ =>
  bif !c5_ then q60_12_v1 Γ n2 x5 x6 x7 x8 r9 else q60_9_v1 Γ n1 n2 s0 u4_ x2 x3 r4 x5 x6 x7 x8 r9 i1_ i2_ w3_ := (Jn_step ..).trans (by kernel_rfl)
theorem q60_9_v1_eq (Γ : SemL) (n1 : Nat) (n2 : Nat) (s0 : ByteArray) (s1 : ByteArray) (x2 : Int) (x3 : Int) (r4 : List (List D)) (x5 : Int) (x6 : Int) (x7 : Int) (x8 : Int) (r9 : List (List
  D)) (x10 : Int) (x11 : Int) (r12 : List (List D)) : q60_9_v1 Γ n1 n2 s0 s1 x2 x3 r4 x5 x6 x7 x8 r9 x10 x11 r12 = bif true && true && true && Nat.ble ((List.length r9 + List.length [[D.int
  IntKind.i64 x10, D.int IntKind.i64 x11, D.list 3 r12]]) * 41) 140737488355328 then r_t2oSoB (Γ 65 [V.one (X.d (D.str s1)), V.one (X.d (D.str s0))] []) [] fun u1_ c2_ => bif c2_ then some
  (Out.mk true (V.tup [V.agg [X.d (D.int IntKind.i64 x7), X.d (D.int IntKind.i64 x8), X.d (D.list 3 (r9 ++ [[D.int IntKind.i64 x10, D.int IntKind.i64 x11, D.list 3 r12]]))], V.one (X.d (D.str
  u1_)), V.one (X.d (D.bool true))]) D.junk [] 0) else q60_10 Γ n1 n2 s0 s1 x2 x3 r4 x5 x6 x7 x8 (r9 ++ [[D.int IntKind.i64 x10, D.int IntKind.i64 x11, D.list 3 r12]]) else none := (Jn_step
  ..).trans (by kernel_rfl)
theorem call34 (k : Nat) (x0 : Int) (r1 : List (List D)) (s2 : ByteArray) : Ak (k + 1) 34 [V.agg [X.d (D.int IntKind.i64 x0), X.d (D.list 2 r1)], V.one (X.d (D.str s2))] [] = e34 (Ak k) k x0
  r1 s2 := call_step (by kernel_rfl) rfl
theorem call36 (k : Nat) (x0 : Int) (x1 : Int) (r2 : List (List D)) : Ak (k + 1) 36 [V.agg [X.d (D.int IntKind.i64 x0), X.d (D.int IntKind.i64 x1), X.d (D.list 3 r2)]] [] = e36 (Ak k) k x0 x1
  r2 := call_step (by kernel_rfl) rfl
theorem call60 (k : Nat) (x0 : Int) (r1 : List (List D)) (s2 : ByteArray) : Ak (k + 1) 60 [V.agg [X.d (D.int IntKind.i64 x0), X.d (D.list 2 r1)], V.one (X.d (D.str s2))] [] = e60 (Ak k) k x0
  r1 s2 := call_step (by kernel_rfl) rfl
theorem call62 (k : Nat) (b0 : Bool) : Ak (k + 1) 62 [V.one (X.d (D.bool b0))] [] = e62 (Ak k) k b0 := call_step (by kernel_rfl) rfl
theorem call80 (k : Nat) (b0 : Bool) : Ak (k + 1) 80 [V.one (X.d (D.bool b0))] [] = e80 (Ak k) k b0 := call_step (by kernel_rfl) rfl
end Go.Proofs.YtkpdofiflhjahaaDoor.Ps
