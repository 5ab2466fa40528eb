/- What the pieces of the functions do, as functions of their data. Printed by pack4.py. -/
import Derived.Test.YtbmcafehpgimfaaPv0
namespace Go.Proofs.Ytbmcafehpgimfaa.Ps
set_option maxHeartbeats 0
set_option maxRecDepth 100000
set_option linter.unusedVariables false
open Go Go.RowKit
open Go.IntKind renaming i64 → iK, u8 → uK
noncomputable def e57 (Γ : Bool → SemL) (n1 : Nat) (x0 x1 : Int) (s2 : ByteArray) (r3 r4 r5 : List (List D)) (x6 x7 x8 : Int) :
  Option Out := runF Γ shp rc false (shp 57) sf57 n1 [V.agg [X.d (D.int iK x0), X.d (D.int iK x1), X.d (D.str s2), X.d (D.list 1 r3), X.d (D.list 1 r4), X.d (D.list 8 r5),
  X.d (D.int iK x6), X.d (D.int iK x7)], V.one (X.d (D.int iK x8))] []
noncomputable def q57_0 (Γ : Bool → SemL) (n1 : Nat) (x0 x1 x2 : Int) (s3 : ByteArray) (r4 r5 r6 : List (List D)) (x7 x8 x9 x10 : Int) (s11 : ByteArray) (x12 x13 : Int) : Option Out := Jn (Γ false) shp n1 j57_0 (St.mk [(1, V.one (X.d (D.int iK x0))), (2, V.one (X.ptr 0 0)), (4, V.one
  (X.ptr 1 0))] [(0, Blk.mk [Lf.int iK, Lf.int iK, Lf.str, Lf.lst 1, Lf.lst 1, Lf.lst 8, Lf.int iK, Lf.int iK] [X.d (D.int iK x1), X.d (D.int
  iK x2), X.d (D.str s3), X.d (D.list 1 r4), X.d (D.list 1 r5), X.d (D.list 8 r6), X.d (D.int iK x7), X.d (D.int iK x8)]), (1, Blk.mk [Lf.int iK, Lf.int
  iK, Lf.str, Lf.lst 1, Lf.lst 1, Lf.lst 8, Lf.int iK, Lf.int iK] [X.d (D.int iK x9), X.d (D.int iK x10), X.d (D.str s11), X.nilL 1, X.nilL 1,
  X.nilL 8, X.d (D.int iK x12), X.d (D.int iK x13)])] [] 2 0 0 []) (finK (Γ true) rc false (shp 57) (SFunc.results sf57) 0)
noncomputable def e24 (Γ : Bool → SemL) (n1 : Nat) (r0 : List (List D)) (x1 : Int) : Option Out := runF Γ shp rc false (shp 24) sf24 n1 [V.one (X.ptr 0 0)] [([Lf.lst 5, Lf.int iK],
  [X.d (D.list 5 r0), X.d (D.int iK x1)])]
noncomputable def l57_0 (n0 : Nat) (Γ : Bool → SemL) (n2 : Nat) (x0 : Int) (r1 : List (List D)) (x2 x3 x4 x5 : Int) (s6 : ByteArray) (x7 x8 : Int) : Option Out
  := loopK (Γ false) shp n0 [1, 4, 14, 15, 16] lb57_0 (St.mk [(1, V.one (X.d (D.int iK x0))), (4, V.one (X.ptr 0 0)), (14, V.one (X.d (D.list 8 r1))), (15, V.one (X.d (D.int
  iK x2))), (16, V.one (X.d (D.int iK x3)))] [(0, Blk.mk [Lf.int iK, Lf.int iK, Lf.str, Lf.lst 1, Lf.lst 1, Lf.lst 8, Lf.int iK, Lf.int
  iK] [X.d (D.int iK x4), X.d (D.int iK x5), X.d (D.str s6), X.nilL 1, X.nilL 1, X.nilL 8, X.d (D.int iK x7), X.d (D.int iK x8)])] [] 1 0 0 [])
  (kBlk 0 (kSeq (some [4]) (fun s K => Jn (Γ false) shp n2 j57_3 s K) (finK (Γ true) rc false (shp 57) (SFunc.results sf57) 0)))
noncomputable def l24_0 (n0 : Nat) (Γ : Bool → SemL) (n2 : Nat) (z3 : List (List D)) (z4 : Int) (r0 : List (List D)) (x1 x2 x3 : Int) (s4 : ByteArray) (x5 x6 x7 x8 : Int) (s9 : ByteArray) (r10 : List (List D)) (x11 x12 : Int) : Option Out := loopK (Γ false) shp n0 [0, 2, 4] lb24_0 (St.mk [(0, V.one (X.ptr 0 0)), (2, V.one (X.ptr
  1 0)), (4, V.one (X.ptr 2 0))] [(0, Blk.mk [Lf.lst 5, Lf.int iK] [X.d (D.list 5 r0), X.d (D.int iK x1)]), (1, Blk.mk [Lf.int iK, Lf.int iK, Lf.str,
  Lf.lst 1, Lf.lst 1, Lf.lst 8, Lf.int iK, Lf.int iK] [X.d (D.int iK x2), X.d (D.int iK x3), X.d (D.str s4), X.nilL 1, X.nilL 1, X.nilL 8, X.d (D.int
  iK x5), X.d (D.int iK x6)]), (2, Blk.mk [Lf.int iK, Lf.int iK, Lf.str, Lf.lst 1, Lf.lst 1, Lf.lst 8, Lf.int iK, Lf.int iK] [X.d (D.int
  iK x7), X.d (D.int iK x8), X.d (D.str s9), X.own 0 9 1 r10, X.nilL 1, X.nilL 8, X.d (D.int iK x11), X.d (D.int iK x12)])] [0] 3 1 1 []) (kBlk 1 (kSeq
  (some [0, 2, 4]) (fun s K => Jn (Γ false) shp n2 j24_1 s K) (kSeq (some [0, 2, 4]) (fun s K => Jn (Γ false) shp n2 j24_2 s K) (kBlk 0 (kSeq (some [0, 2]) (fun s K => Jn (Γ false) shp n2
  j24_6 s K) (finK (Γ true) rc false (shp 24) (SFunc.results sf24) (List.length [([Lf.lst 5, Lf.int iK], [X.d (D.list 5 z3), X.d (D.int iK z4)])])))))))
noncomputable def q24_2 (Γ : Bool → SemL) (n1 : Nat) (z2 : List (List D)) (z3 : Int) (r0 : List (List D)) (x1 x2 x3 : Int) (s4 : ByteArray) (x5 x6 x7 x8 : Int) (s9 : ByteArray) (r10 : List (List D)) (x11 x12 : Int) : Option Out := Jn (Γ false) shp n1 j24_2 (St.mk [(0, V.one (X.ptr 0 0)), (2, V.one (X.ptr 1 0)), (4, V.one (X.ptr
  2 0))] [(0, Blk.mk [Lf.lst 5, Lf.int iK] [X.d (D.list 5 r0), X.d (D.int iK x1)]), (1, Blk.mk [Lf.int iK, Lf.int iK, Lf.str, Lf.lst 1, Lf.lst 1, Lf.lst 8,
  Lf.int iK, Lf.int iK] [X.d (D.int iK x2), X.d (D.int iK x3), X.d (D.str s4), X.nilL 1, X.nilL 1, X.nilL 8, X.d (D.int iK x5), X.d (D.int
  iK x6)]), (2, Blk.mk [Lf.int iK, Lf.int iK, Lf.str, Lf.lst 1, Lf.lst 1, Lf.lst 8, Lf.int iK, Lf.int iK] [X.d (D.int iK x7), X.d (D.int
  iK x8), X.d (D.str s9), X.own 0 9 1 r10, X.nilL 1, X.nilL 8, X.d (D.int iK x11), X.d (D.int iK x12)])] [0] 3 1 1 []) (kBlk 0 (kSeq (some [0, 2]) (fun s K => Jn (Γ
  false) shp n1 j24_6 s K) (finK (Γ true) rc false (shp 24) (SFunc.results sf24) (List.length [([Lf.lst 5, Lf.int iK], [X.d (D.list 5 z2), X.d (D.int iK z3)])]))))
noncomputable def l24_1 (n0 : Nat) (Γ : Bool → SemL) (n2 : Nat) (z3 : List (List D)) (z4 : Int) (r0 : List (List D)) (x1 x2 : Int) (r3 : List (List D)) (x4 x5 x6 : Int) (s7 : ByteArray) (x8 x9 x10 x11 : Int) (s12 : ByteArray) (r13 : List (List D)) (x14 x15 : Int) : Option Out := loopK (Γ false) shp n0 [0, 2, 6, 114,
  115, 116] lb24_1 (St.mk [(0, V.one (X.ptr 0 0)), (2, V.one (X.ptr 1 0)), (6, V.one (X.ptr 2 0)), (114, V.one (X.own 0 9 1 r0)), (115, V.one (X.d (D.int iK x1))), (116, V.one (X.d
  (D.int iK x2)))] [(0, Blk.mk [Lf.lst 5, Lf.int iK] [X.d (D.list 5 r3), X.d (D.int iK x4)]), (1, Blk.mk [Lf.int iK, Lf.int iK, Lf.str, Lf.lst 1,
  Lf.lst 1, Lf.lst 8, Lf.int iK, Lf.int iK] [X.d (D.int iK x5), X.d (D.int iK x6), X.d (D.str s7), X.nilL 1, X.nilL 1, X.nilL 8, X.d (D.int iK
  x8), X.d (D.int iK x9)]), (2, Blk.mk [Lf.int iK, Lf.int iK, Lf.str, Lf.lst 1, Lf.lst 1, Lf.lst 8, Lf.int iK, Lf.int iK] [X.d (D.int iK
  x10), X.d (D.int iK x11), X.d (D.str s12), X.nilL 1, X.nilL 1, X.own 1 27 8 r13, X.d (D.int iK x14), X.d (D.int iK x15)])] [0, 1] 3 2 1 []) (kBlk 3 (kSeq (some
  [0, 2, 6]) (fun s K => Jn (Γ false) shp n2 j24_5 s K) (kBlk 0 (kSeq (some [0, 2]) (fun s K => Jn (Γ false) shp n2 j24_6 s K) (finK (Γ true) rc false (shp 24) (SFunc.results sf24)
  (List.length [([Lf.lst 5, Lf.int iK], [X.d (D.list 5 z3), X.d (D.int iK z4)])]))))))
noncomputable def q24_6 (Γ : Bool → SemL) (n1 : Nat) (z2 : List (List D)) (z3 : Int) (r0 : List (List D)) (x1 x2 x3 : Int) (s4 : ByteArray) (x5 x6 : Int) : Option Out
  := Jn (Γ false) shp n1 j24_6 (St.mk [(0, V.one (X.ptr 0 0)), (2, V.one (X.ptr 1 0))] [(0, Blk.mk [Lf.lst 5, Lf.int iK] [X.d (D.list 5 r0), X.d (D.int iK x1)]), (1, Blk.mk
  [Lf.int iK, Lf.int iK, Lf.str, Lf.lst 1, Lf.lst 1, Lf.lst 8, Lf.int iK, Lf.int iK] [X.d (D.int iK x2), X.d (D.int iK x3), X.d (D.str
  s4), X.nilL 1, X.nilL 1, X.nilL 8, X.d (D.int iK x5), X.d (D.int iK x6)])] [] 2 0 1 []) (finK (Γ true) rc false (shp 24) (SFunc.results sf24) (List.length [([Lf.lst 5,
  Lf.int iK], [X.d (D.list 5 z2), X.d (D.int iK z3)])]))
noncomputable def q57_1 (Γ : Bool → SemL) (n1 : Nat) (n2 : Nat) (x0 : Int) (r1 : List (List D)) (x2 x3 x4 x5 : Int) (s6 : ByteArray) (x7 x8 : Int) : Option Out
  := Jn (Γ false) shp n1 j57_1 (St.mk [(1, V.one (X.d (D.int iK x0))), (4, V.one (X.ptr 0 0)), (14, V.one (X.d (D.list 8 r1))), (15, V.one (X.d (D.int iK x2))), (16, V.one
  (X.d (D.int iK x3)))] [(0, Blk.mk [Lf.int iK, Lf.int iK, Lf.str, Lf.lst 1, Lf.lst 1, Lf.lst 8, Lf.int iK, Lf.int iK] [X.d (D.int iK
  x4), X.d (D.int iK x5), X.d (D.str s6), X.nilL 1, X.nilL 1, X.nilL 8, X.d (D.int iK x7), X.d (D.int iK x8)])] [] 1 0 0 []) (kLoop (loopK (Γ false) shp n1) [1, 4,
  14, 15, 16] lb57_0 (kBlk 0 (kSeq (some [4]) (fun s K => Jn (Γ false) shp n2 j57_3 s K) (finK (Γ true) rc false (shp 57) (SFunc.results sf57) 0))))
noncomputable def q57_3 (Γ : Bool → SemL) (n1 : Nat) (x0 x1 : Int) (s2 : ByteArray) (x3 x4 : Int) : Option Out := Jn (Γ false) shp n1 j57_3 (St.mk [(4, V.one (X.ptr 0 0))]
  [(0, Blk.mk [Lf.int iK, Lf.int iK, Lf.str, Lf.lst 1, Lf.lst 1, Lf.lst 8, Lf.int iK, Lf.int iK] [X.d (D.int iK x0), X.d (D.int iK x1),
  X.d (D.str s2), X.nilL 1, X.nilL 1, X.nilL 8, X.d (D.int iK x3), X.d (D.int iK x4)])] [] 1 0 0 []) (finK (Γ true) rc false (shp 57) (SFunc.results sf57) 0)
noncomputable def q24_0 (Γ : Bool → SemL) (n1 : Nat) (n2 : Nat) (z3 : List (List D)) (z4 : Int) (r0 : List (List D)) (x1 x2 x3 : Int) (s4 : ByteArray) (x5 x6 x7 x8 : Int) (s9 : ByteArray) (r10 : List (List D)) (x11 x12 : Int) : Option Out := Jn (Γ false) shp n1 j24_0 (St.mk [(0, V.one (X.ptr 0 0)), (2, V.one (X.ptr 1 0)), (4,
  V.one (X.ptr 2 0))] [(0, Blk.mk [Lf.lst 5, Lf.int iK] [X.d (D.list 5 r0), X.d (D.int iK x1)]), (1, Blk.mk [Lf.int iK, Lf.int iK, Lf.str, Lf.lst 1, Lf.lst
  1, Lf.lst 8, Lf.int iK, Lf.int iK] [X.d (D.int iK x2), X.d (D.int iK x3), X.d (D.str s4), X.nilL 1, X.nilL 1, X.nilL 8, X.d (D.int iK x5), X.d
  (D.int iK x6)]), (2, Blk.mk [Lf.int iK, Lf.int iK, Lf.str, Lf.lst 1, Lf.lst 1, Lf.lst 8, Lf.int iK, Lf.int iK] [X.d (D.int iK x7), X.d
  (D.int iK x8), X.d (D.str s9), X.own 0 9 1 r10, X.nilL 1, X.nilL 8, X.d (D.int iK x11), X.d (D.int iK x12)])] [0] 3 1 1 []) (kLoop (loopK (Γ false) shp n1) [0, 2,
  4] lb24_0 (kBlk 1 (kSeq (some [0, 2, 4]) (fun s K => Jn (Γ false) shp n2 j24_1 s K) (kSeq (some [0, 2, 4]) (fun s K => Jn (Γ false) shp n2 j24_2 s K) (kBlk 0 (kSeq (some [0, 2]) (fun s K =>
  Jn (Γ false) shp n2 j24_6 s K) (finK (Γ true) rc false (shp 24) (SFunc.results sf24) (List.length [([Lf.lst 5, Lf.int iK], [X.d (D.list 5 z3), X.d (D.int iK z4)])]))))))))
noncomputable def q24_1 (Γ : Bool → SemL) (n1 : Nat) (z2 : List (List D)) (z3 : Int) (r0 : List (List D)) (x1 x2 x3 : Int) (s4 : ByteArray) (x5 x6 x7 x8 : Int) (s9 : ByteArray) (r10 : List (List D)) (x11 x12 : Int) : Option Out := Jn (Γ false) shp n1 j24_1 (St.mk [(0, V.one (X.ptr 0 0)), (2, V.one (X.ptr 1 0)), (4, V.one (X.ptr
  2 0))] [(0, Blk.mk [Lf.lst 5, Lf.int iK] [X.d (D.list 5 r0), X.d (D.int iK x1)]), (1, Blk.mk [Lf.int iK, Lf.int iK, Lf.str, Lf.lst 1, Lf.lst 1, Lf.lst 8,
  Lf.int iK, Lf.int iK] [X.d (D.int iK x2), X.d (D.int iK x3), X.d (D.str s4), X.nilL 1, X.nilL 1, X.nilL 8, X.d (D.int iK x5), X.d (D.int
  iK x6)]), (2, Blk.mk [Lf.int iK, Lf.int iK, Lf.str, Lf.lst 1, Lf.lst 1, Lf.lst 8, Lf.int iK, Lf.int iK] [X.d (D.int iK x7), X.d (D.int
  iK x8), X.d (D.str s9), X.own 0 9 1 r10, X.nilL 1, X.nilL 8, X.d (D.int iK x11), X.d (D.int iK x12)])] [0] 3 1 1 []) (kSeq (some [0, 2, 4]) (fun s K => Jn (Γ
  false) shp n1 j24_2 s K) (kBlk 0 (kSeq (some [0, 2]) (fun s K => Jn (Γ false) shp n1 j24_6 s K) (finK (Γ true) rc false (shp 24) (SFunc.results sf24) (List.length [([Lf.lst 5, Lf.int
  iK], [X.d (D.list 5 z2), X.d (D.int iK z3)])])))))
noncomputable def q24_3 (Γ : Bool → SemL) (n1 : Nat) (n2 : Nat) (z3 : List (List D)) (z4 : Int) (r0 : List (List D)) (x1 x2 : Int) (r3 : List (List D)) (x4 x5 x6 : Int) (s7 : ByteArray) (x8 x9 x10 x11 : Int) (s12 : ByteArray) (r13 : List (List D)) (x14 x15 : Int) : Option Out := Jn (Γ false) shp n1 j24_3 (St.mk [(0,
  V.one (X.ptr 0 0)), (2, V.one (X.ptr 1 0)), (6, V.one (X.ptr 2 0)), (114, V.one (X.own 0 9 1 r0)), (115, V.one (X.d (D.int iK x1))), (116, V.one (X.d (D.int iK x2)))] [(0,
  Blk.mk [Lf.lst 5, Lf.int iK] [X.d (D.list 5 r3), X.d (D.int iK x4)]), (1, Blk.mk [Lf.int iK, Lf.int iK, Lf.str, Lf.lst 1, Lf.lst 1, Lf.lst 8, Lf.int
  iK, Lf.int iK] [X.d (D.int iK x5), X.d (D.int iK x6), X.d (D.str s7), X.nilL 1, X.nilL 1, X.nilL 8, X.d (D.int iK x8), X.d (D.int iK
  x9)]), (2, Blk.mk [Lf.int iK, Lf.int iK, Lf.str, Lf.lst 1, Lf.lst 1, Lf.lst 8, Lf.int iK, Lf.int iK] [X.d (D.int iK x10), X.d (D.int iK
  x11), X.d (D.str s12), X.nilL 1, X.nilL 1, X.own 1 27 8 r13, X.d (D.int iK x14), X.d (D.int iK x15)])] [0, 1] 3 2 1 []) (kLoop (loopK (Γ false) shp n1) [0, 2, 6, 114, 115,
  116] lb24_1 (kBlk 3 (kSeq (some [0, 2, 6]) (fun s K => Jn (Γ false) shp n2 j24_5 s K) (kBlk 0 (kSeq (some [0, 2]) (fun s K => Jn (Γ false) shp n2 j24_6 s K) (finK (Γ true) rc false (shp 24)
  (SFunc.results sf24) (List.length [([Lf.lst 5, Lf.int iK], [X.d (D.list 5 z3), X.d (D.int iK z4)])])))))))
noncomputable def q24_5 (Γ : Bool → SemL) (n1 : Nat) (z2 : List (List D)) (z3 : Int) (r0 : List (List D)) (x1 x2 x3 : Int) (s4 : ByteArray) (x5 x6 x7 x8 : Int) (s9 : ByteArray) (r10 : List (List D)) (x11 x12 : Int) : Option Out := Jn (Γ false) shp n1 j24_5 (St.mk [(0, V.one (X.ptr 0 0)), (2, V.one (X.ptr 1 0)), (6, V.one (X.ptr
  2 0))] [(0, Blk.mk [Lf.lst 5, Lf.int iK] [X.d (D.list 5 r0), X.d (D.int iK x1)]), (1, Blk.mk [Lf.int iK, Lf.int iK, Lf.str, Lf.lst 1, Lf.lst 1, Lf.lst 8,
  Lf.int iK, Lf.int iK] [X.d (D.int iK x2), X.d (D.int iK x3), X.d (D.str s4), X.nilL 1, X.nilL 1, X.nilL 8, X.d (D.int iK x5), X.d (D.int
  iK x6)]), (2, Blk.mk [Lf.int iK, Lf.int iK, Lf.str, Lf.lst 1, Lf.lst 1, Lf.lst 8, Lf.int iK, Lf.int iK] [X.d (D.int iK x7), X.d (D.int
  iK x8), X.d (D.str s9), X.nilL 1, X.nilL 1, X.own 0 27 8 r10, X.d (D.int iK x11), X.d (D.int iK x12)])] [0] 3 1 1 []) (kBlk 0 (kSeq (some [0, 2]) (fun s K => Jn
  (Γ false) shp n1 j24_6 s K) (finK (Γ true) rc false (shp 24) (SFunc.results sf24) (List.length [([Lf.lst 5, Lf.int iK], [X.d (D.list 5 z2), X.d (D.int iK z3)])]))))
noncomputable def e56 (Γ : Bool → SemL) (n1 : Nat) (x0 : Int) (r1 : List (List D)) (x2 : Int) : Option Out := runF Γ shp rc false (shp 56) sf56 n1 [V.one (X.ptr 0 0), V.one (X.d (D.int
  iK x0))] [([Lf.lst 5, Lf.int iK], [X.d (D.list 5 r1), X.d (D.int iK x2)])]
noncomputable def q57_2 (Γ : Bool → SemL) (n1 : Nat) (n2 : Nat) (x0 : Int) (r1 : List (List D)) (x2 x3 x4 x5 : Int) (s6 : ByteArray) (x7 x8 : Int) : Option Out
  := Jn (Γ false) shp n1 j57_2 (St.mk [(1, V.one (X.d (D.int iK x0))), (4, V.one (X.ptr 0 0)), (14, V.one (X.d (D.list 8 r1))), (15, V.one (X.d (D.int iK x2))), (16, V.one
  (X.d (D.int iK x3)))] [(0, Blk.mk [Lf.int iK, Lf.int iK, Lf.str, Lf.lst 1, Lf.lst 1, Lf.lst 8, Lf.int iK, Lf.int iK] [X.d (D.int iK
  x4), X.d (D.int iK x5), X.d (D.str s6), X.nilL 1, X.nilL 1, X.nilL 8, X.d (D.int iK x7), X.d (D.int iK x8)])] [] 1 0 0 []) (kLoop (loopK (Γ false) shp n1) [1, 4,
  14, 15, 16] lb57_0 (kBlk 0 (kSeq (some [4]) (fun s K => Jn (Γ false) shp n2 j57_3 s K) (finK (Γ true) rc false (shp 57) (SFunc.results sf57) 0))))
noncomputable def q24_4 (Γ : Bool → SemL) (n1 : Nat) (n2 : Nat) (z3 : List (List D)) (z4 : Int) (r0 : List (List D)) (x1 x2 : Int) (r3 : List (List D)) (x4 x5 x6 : Int) (s7 : ByteArray) (x8 x9 x10 x11 : Int) (s12 : ByteArray) (r13 : List (List D)) (x14 x15 : Int) : Option Out := Jn (Γ false) shp n1 j24_4 (St.mk [(0,
  V.one (X.ptr 0 0)), (2, V.one (X.ptr 1 0)), (6, V.one (X.ptr 2 0)), (114, V.one (X.own 0 9 1 r0)), (115, V.one (X.d (D.int iK x1))), (116, V.one (X.d (D.int iK x2)))] [(0,
  Blk.mk [Lf.lst 5, Lf.int iK] [X.d (D.list 5 r3), X.d (D.int iK x4)]), (1, Blk.mk [Lf.int iK, Lf.int iK, Lf.str, Lf.lst 1, Lf.lst 1, Lf.lst 8, Lf.int
  iK, Lf.int iK] [X.d (D.int iK x5), X.d (D.int iK x6), X.d (D.str s7), X.nilL 1, X.nilL 1, X.nilL 8, X.d (D.int iK x8), X.d (D.int iK
  x9)]), (2, Blk.mk [Lf.int iK, Lf.int iK, Lf.str, Lf.lst 1, Lf.lst 1, Lf.lst 8, Lf.int iK, Lf.int iK] [X.d (D.int iK x10), X.d (D.int iK
  x11), X.d (D.str s12), X.nilL 1, X.nilL 1, X.own 1 27 8 r13, X.d (D.int iK x14), X.d (D.int iK x15)])] [0, 1] 3 2 1 []) (kLoop (loopK (Γ false) shp n1) [0, 2, 6, 114, 115,
  116] lb24_1 (kBlk 3 (kSeq (some [0, 2, 6]) (fun s K => Jn (Γ false) shp n2 j24_5 s K) (kBlk 0 (kSeq (some [0, 2]) (fun s K => Jn (Γ false) shp n2 j24_6 s K) (finK (Γ true) rc false (shp 24)
  (SFunc.results sf24) (List.length [([Lf.lst 5, Lf.int iK], [X.d (D.list 5 z3), X.d (D.int iK z4)])])))))))
noncomputable def q56_0 (Γ : Bool → SemL) (n1 : Nat) (z2 : List (List D)) (z3 x0 : Int) (r1 : List (List D)) (x2 x3 x4 : Int) (s5 : ByteArray) (x6 x7 : Int) :
  Option Out := Jn (Γ false) shp n1 j56_0 (St.mk [(0, V.one (X.ptr 0 0)), (1, V.one (X.d (D.int iK x0))), (4, V.one (X.ptr 1 0))] [(0, Blk.mk [Lf.lst 5, Lf.int iK] [X.d
  (D.list 5 r1), X.d (D.int iK x2)]), (1, Blk.mk [Lf.int iK, Lf.int iK, Lf.str, Lf.lst 1, Lf.lst 1, Lf.lst 8, Lf.int iK, Lf.int iK] [X.d (D.int
  iK x3), X.d (D.int iK x4), X.d (D.str s5), X.nilL 1, X.nilL 1, X.nilL 8, X.d (D.int iK x6), X.d (D.int iK x7)])] [] 2 0 1 []) (finK (Γ true) rc false
  (shp 56) (SFunc.results sf56) (List.length [([Lf.lst 5, Lf.int iK], [X.d (D.list 5 z2), X.d (D.int iK z3)])]))
noncomputable def e94 (Γ : Bool → SemL) (n1 : Nat) (r0 : List (List D)) (x1 : Int) : Option Out := runF Γ shp rc false (shp 94) sf94 n1 [V.one (X.ptr 0 0)] [([Lf.lst 5, Lf.int iK],
  [X.d (D.list 5 r0), X.d (D.int iK x1)])]
noncomputable def l56_0 (n0 : Nat) (Γ : Bool → SemL) (z2 : List (List D)) (z3 x0 : Int) (r1 : List (List D)) (x2 x3 x4 : Int) (s5 : ByteArray) (x6 x7 x8 x9 : Int) (s10 : ByteArray) (r11 r12 r13 : List (List D)) (x14 x15 : Int) : Option Out := loopK (Γ false) shp n0 [0, 1, 4, 5] lb56_0
  (St.mk [(0, V.one (X.ptr 0 0)), (1, V.one (X.d (D.int iK x0))), (4, V.one (X.ptr 1 0)), (5, V.one (X.ptr 2 0))] [(0, Blk.mk [Lf.lst 5, Lf.int iK] [X.d (D.list 5 r1), X.d
  (D.int iK x2)]), (1, Blk.mk [Lf.int iK, Lf.int iK, Lf.str, Lf.lst 1, Lf.lst 1, Lf.lst 8, Lf.int iK, Lf.int iK] [X.d (D.int iK x3), X.d
  (D.int iK x4), X.d (D.str s5), X.nilL 1, X.nilL 1, X.nilL 8, X.d (D.int iK x6), X.d (D.int iK x7)]), (2, Blk.mk [Lf.int iK, Lf.int iK, Lf.str,
  Lf.lst 1, Lf.lst 1, Lf.lst 8, Lf.int iK, Lf.int iK] [X.d (D.int iK x8), X.d (D.int iK x9), X.d (D.str s10), X.d (D.list 1 r11), X.d (D.list 1 r12), X.d
  (D.list 8 r13), X.d (D.int iK x14), X.d (D.int iK x15)])] [] 3 0 1 []) (kBlk 0 (finK (Γ true) rc false (shp 56) (SFunc.results sf56) (List.length [([Lf.lst 5, Lf.int
  iK], [X.d (D.list 5 z2), X.d (D.int iK z3)])])))
noncomputable def e101 (Γ : Bool → SemL) (n1 : Nat) (s0 : ByteArray) (r1 : List (List D)) (x2 : Int) : Option Out := runF Γ shp rc false (shp 101) sf101 n1 [V.one (X.ptr 0 0), V.one (X.d
  (D.str s0))] [([Lf.lst 5, Lf.int iK], [X.d (D.list 5 r1), X.d (D.int iK x2)])]
noncomputable def q94_0 (Γ : Bool → SemL) (n1 : Nat) (z2 : List (List D)) (z3 : Int) (r0 : List (List D)) (x1 x2 x3 : Int) (s4 : ByteArray) (x5 x6 x7 x8 : Int) (s9 : ByteArray) (r10 : List (List D)) (x11 x12 : Int) : Option Out := Jn (Γ false) shp n1 j94_0 (St.mk [(2, V.one (X.ptr 1 0)), (5, V.one (X.ptr 2 0))] [(0, Blk.mk
  [Lf.lst 5, Lf.int iK] [X.d (D.list 5 r0), X.d (D.int iK x1)]), (1, Blk.mk [Lf.int iK, Lf.int iK, Lf.str, Lf.lst 1, Lf.lst 1, Lf.lst 8, Lf.int
  iK, Lf.int iK] [X.d (D.int iK x2), X.d (D.int iK x3), X.d (D.str s4), X.nilL 1, X.nilL 1, X.nilL 8, X.d (D.int iK x5), X.d (D.int iK
  x6)]), (2, Blk.mk [Lf.int iK, Lf.int iK, Lf.str, Lf.lst 1, Lf.lst 1, Lf.lst 8, Lf.int iK, Lf.int iK] [X.d (D.int iK x7), X.d (D.int iK
  x8), X.d (D.str s9), X.nilL 1, X.nilL 1, X.d (D.list 8 r10), X.d (D.int iK x11), X.d (D.int iK x12)])] [] 3 0 1 []) (kBlk 0 (kSeq (some [0, 2]) (fun s K => Jn (Γ false)
  shp n1 j94_4 s K) (finK (Γ true) rc false (shp 94) (SFunc.results sf94) (List.length [([Lf.lst 5, Lf.int iK], [X.d (D.list 5 z2), X.d (D.int iK z3)])]))))
noncomputable def q94_0_v1 (Γ : Bool → SemL) (n1 : Nat) (z2 : List (List D)) (z3 : Int) (r0 : List (List D)) (x1 x2 x3 : Int) (s4 : ByteArray) (x5 x6 x7 x8 : Int) (s9 : ByteArray) (x10 x11 : Int) : Option Out := Jn (Γ false) shp n1 j94_0 (St.mk [(2, V.one (X.ptr 1 0)), (5, V.one (X.ptr 2 0))] [(0, Blk.mk [Lf.lst 5, Lf.int
  iK] [X.d (D.list 5 r0), X.d (D.int iK x1)]), (1, Blk.mk [Lf.int iK, Lf.int iK, Lf.str, Lf.lst 1, Lf.lst 1, Lf.lst 8, Lf.int iK, Lf.int
  iK] [X.d (D.int iK x2), X.d (D.int iK x3), X.d (D.str s4), X.nilL 1, X.nilL 1, X.nilL 8, X.d (D.int iK x5), X.d (D.int iK x6)]), (2, Blk.mk
  [Lf.int iK, Lf.int iK, Lf.str, Lf.lst 1, Lf.lst 1, Lf.lst 8, Lf.int iK, Lf.int iK] [X.d (D.int iK x7), X.d (D.int iK x8), X.d (D.str
  s9), X.nilL 1, X.nilL 1, X.nilL 8, X.d (D.int iK x10), X.d (D.int iK x11)])] [] 3 0 1 []) (kBlk 0 (kSeq (some [0, 2]) (fun s K => Jn (Γ false) shp n1 j94_4 s K) (finK (Γ
  true) rc false (shp 94) (SFunc.results sf94) (List.length [([Lf.lst 5, Lf.int iK], [X.d (D.list 5 z2), X.d (D.int iK z3)])]))))
noncomputable def q94_1 (Γ : Bool → SemL) (n1 : Nat) (z2 : List (List D)) (z3 : Int) (r0 : List (List D)) (x1 x2 x3 : Int) (s4 : ByteArray) (x5 x6 x7 : Int)
  (s8 : ByteArray) (x9 x10 x11 x12 x13 : Int) (s14 : ByteArray) (r15 r16 r17 : List (List D)) (x18 x19 : Int) :
  Option Out := Jn (Γ false) shp n1 j94_1 (St.mk [(0, V.one (X.ptr 0 0)), (2, V.one (X.ptr 1 0)), (3, V.one (X.ptr 2 0)), (7, V.one (X.ptr 3 0))] [(0, Blk.mk [Lf.lst 5, Lf.int iK]
  [X.d (D.list 5 r0), X.d (D.int iK x1)]), (1, Blk.mk [Lf.int iK, Lf.int iK, Lf.str, Lf.lst 1, Lf.lst 1, Lf.lst 8, Lf.int iK, Lf.int iK] [X.d
  (D.int iK x2), X.d (D.int iK x3), X.d (D.str s4), X.nilL 1, X.nilL 1, X.nilL 8, X.d (D.int iK x5), X.d (D.int iK x6)]), (2, Blk.mk [Lf.int iK,
  Lf.str, Lf.int iK, Lf.int iK, Lf.int iK] [X.d (D.int iK x7), X.d (D.str s8), X.d (D.int iK x9), X.d (D.int iK x10), X.d (D.int
  iK x11)]), (3, Blk.mk [Lf.int iK, Lf.int iK, Lf.str, Lf.lst 1, Lf.lst 1, Lf.lst 8, Lf.int iK, Lf.int iK] [X.d (D.int iK x12), X.d
  (D.int iK x13), X.d (D.str s14), X.d (D.list 1 r15), X.d (D.list 1 r16), X.d (D.list 8 r17), X.d (D.int iK x18), X.d (D.int iK x19)])] [] 4 0 1 []) (kBlk 0 (kSeq
  (some [0, 2]) (fun s K => Jn (Γ false) shp n1 j94_4 s K) (finK (Γ true) rc false (shp 94) (SFunc.results sf94) (List.length [([Lf.lst 5, Lf.int iK], [X.d (D.list 5 z2), X.d (D.int
  iK z3)])]))))
noncomputable def l94_1 (n0 : Nat) (Γ : Bool → SemL) (n2 : Nat) (z3 : List (List D)) (z4 : Int) (r0 : List (List D)) (x1 x2 x3 : Int) (s4 : ByteArray) (x5 x6 x7 x8 : Int) (s9 : ByteArray) (x10 x11 : Int) : Option Out := loopK (Γ false) shp n0 [0, 2, 10] lb94_1 (St.mk [(0, V.one (X.ptr 0 0)), (2, V.one (X.ptr 1 0)), (10, V.one
  (X.ptr 2 0))] [(0, Blk.mk [Lf.lst 5, Lf.int iK] [X.d (D.list 5 r0), X.d (D.int iK x1)]), (1, Blk.mk [Lf.int iK, Lf.int iK, Lf.str, Lf.lst 1, Lf.lst 1,
  Lf.lst 8, Lf.int iK, Lf.int iK] [X.d (D.int iK x2), X.d (D.int iK x3), X.d (D.str s4), X.nilL 1, X.nilL 1, X.nilL 8, X.d (D.int iK x5), X.d
  (D.int iK x6)]), (2, Blk.mk [Lf.int iK, Lf.int iK, Lf.str, Lf.lst 1, Lf.lst 1, Lf.lst 8, Lf.int iK, Lf.int iK] [X.d (D.int iK x7), X.d
  (D.int iK x8), X.d (D.str s9), X.nilL 1, X.nilL 1, X.nilL 8, X.d (D.int iK x10), X.d (D.int iK x11)])] [] 3 0 1 []) (kBlk 3 (kBlk 0 (kSeq (some [0, 2]) (fun s K
  => Jn (Γ false) shp n2 j94_4 s K) (finK (Γ true) rc false (shp 94) (SFunc.results sf94) (List.length [([Lf.lst 5, Lf.int iK], [X.d (D.list 5 z3), X.d (D.int iK z4)])])))))
noncomputable def q94_4 (Γ : Bool → SemL) (n1 : Nat) (z2 : List (List D)) (z3 : Int) (r0 : List (List D)) (x1 x2 x3 : Int) (s4 : ByteArray) (x5 x6 : Int) : Option Out
  := Jn (Γ false) shp n1 j94_4 (St.mk [(0, V.one (X.ptr 0 0)), (2, V.one (X.ptr 1 0))] [(0, Blk.mk [Lf.lst 5, Lf.int iK] [X.d (D.list 5 r0), X.d (D.int iK x1)]), (1, Blk.mk
  [Lf.int iK, Lf.int iK, Lf.str, Lf.lst 1, Lf.lst 1, Lf.lst 8, Lf.int iK, Lf.int iK] [X.d (D.int iK x2), X.d (D.int iK x3), X.d (D.str
  s4), X.nilL 1, X.nilL 1, X.nilL 8, X.d (D.int iK x5), X.d (D.int iK x6)])] [] 2 0 1 []) (finK (Γ true) rc false (shp 94) (SFunc.results sf94) (List.length [([Lf.lst 5,
  Lf.int iK], [X.d (D.list 5 z2), X.d (D.int iK z3)])]))
noncomputable def q56_1 (Γ : Bool → SemL) (n1 : Nat) (z2 : List (List D)) (z3 x0 : Int) (s1 : ByteArray) (r2 : List (List D)) (x3 x4 x5 : Int) (s6 : ByteArray) (x7 x8 x9 x10 : Int) (s11 : ByteArray) (r12 r13 r14 : List (List D)) (x15 x16 x17 : Int) (s18 : ByteArray) (x19 x20 x21 : Int) : Option Out := Jn (Γ false) shp n1 j56_1 (St.mk [(0, V.one (X.ptr 0 0)), (1, V.one (X.d (D.int iK x0))), (4, V.one (X.ptr 1 0)), (5, V.one (X.ptr 2 0)),
  (6, V.one (X.ptr 3 0)), (7, V.one (X.d (D.str s1)))] [(0, Blk.mk [Lf.lst 5, Lf.int iK] [X.d (D.list 5 r2), X.d (D.int iK x3)]), (1, Blk.mk [Lf.int iK, Lf.int
  iK, Lf.str, Lf.lst 1, Lf.lst 1, Lf.lst 8, Lf.int iK, Lf.int iK] [X.d (D.int iK x4), X.d (D.int iK x5), X.d (D.str s6), X.nilL 1, X.nilL 1,
  X.nilL 8, X.d (D.int iK x7), X.d (D.int iK x8)]), (2, Blk.mk [Lf.int iK, Lf.int iK, Lf.str, Lf.lst 1, Lf.lst 1, Lf.lst 8, Lf.int iK, Lf.int
  iK] [X.d (D.int iK x9), X.d (D.int iK x10), X.d (D.str s11), X.d (D.list 1 r12), X.d (D.list 1 r13), X.d (D.list 8 r14), X.d (D.int iK x15), X.d (D.int
  iK x16)]), (3, Blk.mk [Lf.int iK, Lf.str, Lf.int iK, Lf.int iK, Lf.int iK] [X.d (D.int iK x17), X.d (D.str s18), X.d (D.int iK
  x19), X.d (D.int iK x20), X.d (D.int iK x21)])] [] 4 0 1 []) (kBlk 1 (kLoop (loopK (Γ false) shp n1) [0, 1, 4, 5] lb56_0 (kBlk 0 (finK (Γ true) rc false (shp 56)
  (SFunc.results sf56) (List.length [([Lf.lst 5, Lf.int iK], [X.d (D.list 5 z2), X.d (D.int iK z3)])])))))
noncomputable def q101_0 (Γ : Bool → SemL) (n1 : Nat) (z2 : List (List D)) (z3 : Int) (s0 : ByteArray) (r1 : List (List D)) (x2 : Int) : Option Out := Jn (Γ false) shp n1 j101_0 (St.mk [(0,
  V.one (X.ptr 0 0)), (1, V.one (X.d (D.str s0))), (5, V.one (X.nilL 8))] [(0, Blk.mk [Lf.lst 5, Lf.int iK] [X.d (D.list 5 r1), X.d (D.int iK x2)])] [] 1 0 1 []) (finK (Γ
  true) rc false (shp 101) (SFunc.results sf101) (List.length [([Lf.lst 5, Lf.int iK], [X.d (D.list 5 z2), X.d (D.int iK z3)])]))
noncomputable def l94_0 (n0 : Nat) (Γ : Bool → SemL) (n2 : Nat) (z3 : List (List D)) (z4 : Int) (r0 : List (List D)) (x1 x2 x3 : Int) (s4 : ByteArray) (x5 x6 x7 x8 : Int) (s9 : ByteArray) (r10 : List (List D)) (x11 x12 : Int) : Option Out := loopK (Γ false) shp n0 [0, 2, 8] lb94_0 (St.mk [(0, V.one (X.ptr 0 0)), (2, V.one (X.ptr
  1 0)), (8, V.one (X.ptr 2 0))] [(0, Blk.mk [Lf.lst 5, Lf.int iK] [X.d (D.list 5 r0), X.d (D.int iK x1)]), (1, Blk.mk [Lf.int iK, Lf.int iK, Lf.str,
  Lf.lst 1, Lf.lst 1, Lf.lst 8, Lf.int iK, Lf.int iK] [X.d (D.int iK x2), X.d (D.int iK x3), X.d (D.str s4), X.nilL 1, X.nilL 1, X.nilL 8, X.d (D.int
  iK x5), X.d (D.int iK x6)]), (2, Blk.mk [Lf.int iK, Lf.int iK, Lf.str, Lf.lst 1, Lf.lst 1, Lf.lst 8, Lf.int iK, Lf.int iK] [X.d (D.int
  iK x7), X.d (D.int iK x8), X.d (D.str s9), X.nilL 1, X.nilL 1, X.own 0 27 8 r10, X.d (D.int iK x11), X.d (D.int iK x12)])] [0] 3 1 1 []) (kBlk 1 (kSeq
  (some [0, 2, 8]) (fun s K => Jn (Γ false) shp n2 j94_3 s K) (kBlk 0 (kSeq (some [0, 2]) (fun s K => Jn (Γ false) shp n2 j94_4 s K) (finK (Γ true) rc false (shp 94) (SFunc.results sf94)
  (List.length [([Lf.lst 5, Lf.int iK], [X.d (D.list 5 z3), X.d (D.int iK z4)])]))))))
noncomputable def l94_1_v1 (n0 : Nat) (Γ : Bool → SemL) (n2 : Nat) (z3 : List (List D)) (z4 : Int) (r0 : List (List D)) (x1 x2 x3 : Int) (s4 : ByteArray) (x5 x6 x7 x8 : Int) (s9 : ByteArray) (r10 r11 : List (List D)) (x12 x13 : Int) : Option Out := loopK (Γ false) shp n0 [0, 2, 10] lb94_1 (St.mk [(0, V.one (X.ptr
  0 0)), (2, V.one (X.ptr 1 0)), (10, V.one (X.ptr 2 0))] [(0, Blk.mk [Lf.lst 5, Lf.int iK] [X.d (D.list 5 r0), X.d (D.int iK x1)]), (1, Blk.mk [Lf.int iK, Lf.int
  iK, Lf.str, Lf.lst 1, Lf.lst 1, Lf.lst 8, Lf.int iK, Lf.int iK] [X.d (D.int iK x2), X.d (D.int iK x3), X.d (D.str s4), X.nilL 1, X.nilL 1,
  X.nilL 8, X.d (D.int iK x5), X.d (D.int iK x6)]), (2, Blk.mk [Lf.int iK, Lf.int iK, Lf.str, Lf.lst 1, Lf.lst 1, Lf.lst 8, Lf.int iK, Lf.int
  iK] [X.d (D.int iK x7), X.d (D.int iK x8), X.d (D.str s9), X.nilL 1, X.own 0 3 1 r10, X.own 1 27 8 r11, X.d (D.int iK x12), X.d (D.int iK
  x13)])] [0, 1] 3 2 1 []) (kBlk 3 (kBlk 0 (kSeq (some [0, 2]) (fun s K => Jn (Γ false) shp n2 j94_4 s K) (finK (Γ true) rc false (shp 94) (SFunc.results sf94) (List.length [([Lf.lst 5,
  Lf.int iK], [X.d (D.list 5 z3), X.d (D.int iK z4)])])))))
noncomputable def q56_2 (Γ : Bool → SemL) (n1 : Nat) (z2 : List (List D)) (z3 x0 x1 : Int) (r2 : List (List D)) (x3 x4 x5 : Int) (s6 : ByteArray) (x7 x8 x9 x10 : Int) (s11 : ByteArray) (r12 r13 r14 : List (List D)) (x15 x16 x17 x18 : Int) (s19 : ByteArray) (x20 x21 : Int) : Option Out := Jn (Γ false) shp n1 j56_2 (St.mk [(0, V.one (X.ptr 0 0)), (1, V.one (X.d (D.int iK x0))), (4, V.one (X.ptr 1 0)), (5, V.one (X.ptr 2 0)), (8,
  V.one (X.ptr 3 0)), (9, V.one (X.d (D.int iK x1)))] [(0, Blk.mk [Lf.lst 5, Lf.int iK] [X.d (D.list 5 r2), X.d (D.int iK x3)]), (1, Blk.mk [Lf.int iK,
  Lf.int iK, Lf.str, Lf.lst 1, Lf.lst 1, Lf.lst 8, Lf.int iK, Lf.int iK] [X.d (D.int iK x4), X.d (D.int iK x5), X.d (D.str s6), X.nilL 1, X.nilL
  1, X.nilL 8, X.d (D.int iK x7), X.d (D.int iK x8)]), (2, Blk.mk [Lf.int iK, Lf.int iK, Lf.str, Lf.lst 1, Lf.lst 1, Lf.lst 8, Lf.int iK, Lf.int
  iK] [X.d (D.int iK x9), X.d (D.int iK x10), X.d (D.str s11), X.d (D.list 1 r12), X.d (D.list 1 r13), X.d (D.list 8 r14), X.d (D.int iK x15), X.d (D.int
  iK x16)]), (3, Blk.mk [Lf.int iK, Lf.int iK, Lf.str, Lf.lst 1, Lf.lst 1, Lf.lst 8, Lf.int iK, Lf.int iK] [X.d (D.int iK x17), X.d
  (D.int iK x18), X.d (D.str s19), X.nilL 1, X.nilL 1, X.nilL 8, X.d (D.int iK x20), X.d (D.int iK x21)])] [] 4 0 1 []) (kBlk 1 (kLoop (loopK (Γ false) shp n1) [0,
  1, 4, 5] lb56_0 (kBlk 0 (finK (Γ true) rc false (shp 56) (SFunc.results sf56) (List.length [([Lf.lst 5, Lf.int iK], [X.d (D.list 5 z2), X.d (D.int iK z3)])])))))
noncomputable def l101_0 (n0 : Nat) (Γ : Bool → SemL) (n2 : Nat) (z3 : List (List D)) (z4 : Int) (s0 : ByteArray) (r1 r2 : List (List D)) (x3 : Int) : Option Out := loopK (Γ
  false) shp n0 [0, 1, 5] lb101_0 (St.mk [(0, V.one (X.ptr 0 0)), (1, V.one (X.d (D.str s0))), (5, V.one (X.own 0 27 8 r1))] [(0, Blk.mk [Lf.lst 5, Lf.int iK] [X.d (D.list 5 r2), X.d
  (D.int iK x3)])] [0] 1 1 1 []) (kBlk 0 (kSeq (some [0, 1, 5]) (fun s K => Jn (Γ false) shp n2 j101_2 s K) (finK (Γ true) rc false (shp 101) (SFunc.results sf101) (List.length
  [([Lf.lst 5, Lf.int iK], [X.d (D.list 5 z3), X.d (D.int iK z4)])]))))
noncomputable def q94_2 (Γ : Bool → SemL) (n1 : Nat) (n2 : Nat) (z3 : List (List D)) (z4 : Int) (r0 : List (List D)) (x1 x2 x3 : Int) (s4 : ByteArray) (x5 x6 x7 x8 : Int) (s9 : ByteArray) (r10 : List (List D)) (x11 x12 : Int) : Option Out := Jn (Γ false) shp n1 j94_2 (St.mk [(0, V.one (X.ptr 0 0)), (2, V.one (X.ptr 1 0)), (8,
  V.one (X.ptr 2 0))] [(0, Blk.mk [Lf.lst 5, Lf.int iK] [X.d (D.list 5 r0), X.d (D.int iK x1)]), (1, Blk.mk [Lf.int iK, Lf.int iK, Lf.str, Lf.lst 1, Lf.lst
  1, Lf.lst 8, Lf.int iK, Lf.int iK] [X.d (D.int iK x2), X.d (D.int iK x3), X.d (D.str s4), X.nilL 1, X.nilL 1, X.nilL 8, X.d (D.int iK x5), X.d
  (D.int iK x6)]), (2, Blk.mk [Lf.int iK, Lf.int iK, Lf.str, Lf.lst 1, Lf.lst 1, Lf.lst 8, Lf.int iK, Lf.int iK] [X.d (D.int iK x7), X.d
  (D.int iK x8), X.d (D.str s9), X.nilL 1, X.nilL 1, X.own 0 27 8 r10, X.d (D.int iK x11), X.d (D.int iK x12)])] [0] 3 1 1 []) (kLoop (loopK (Γ false) shp n1) [0,
  2, 8] lb94_0 (kBlk 1 (kSeq (some [0, 2, 8]) (fun s K => Jn (Γ false) shp n2 j94_3 s K) (kBlk 0 (kSeq (some [0, 2]) (fun s K => Jn (Γ false) shp n2 j94_4 s K) (finK (Γ true) rc false (shp
  94) (SFunc.results sf94) (List.length [([Lf.lst 5, Lf.int iK], [X.d (D.list 5 z3), X.d (D.int iK z4)])])))))))
noncomputable def q94_3 (Γ : Bool → SemL) (n1 : Nat) (z2 : List (List D)) (z3 : Int) (r0 : List (List D)) (x1 x2 x3 : Int) (s4 : ByteArray) (x5 x6 x7 x8 : Int) (s9 : ByteArray) (r10 : List (List D)) (x11 x12 : Int) : Option Out := Jn (Γ false) shp n1 j94_3 (St.mk [(0, V.one (X.ptr 0 0)), (2, V.one (X.ptr 1 0)), (8, V.one (X.ptr
  2 0))] [(0, Blk.mk [Lf.lst 5, Lf.int iK] [X.d (D.list 5 r0), X.d (D.int iK x1)]), (1, Blk.mk [Lf.int iK, Lf.int iK, Lf.str, Lf.lst 1, Lf.lst 1, Lf.lst 8,
  Lf.int iK, Lf.int iK] [X.d (D.int iK x2), X.d (D.int iK x3), X.d (D.str s4), X.nilL 1, X.nilL 1, X.nilL 8, X.d (D.int iK x5), X.d (D.int
  iK x6)]), (2, Blk.mk [Lf.int iK, Lf.int iK, Lf.str, Lf.lst 1, Lf.lst 1, Lf.lst 8, Lf.int iK, Lf.int iK] [X.d (D.int iK x7), X.d (D.int
  iK x8), X.d (D.str s9), X.nilL 1, X.nilL 1, X.own 0 27 8 r10, X.d (D.int iK x11), X.d (D.int iK x12)])] [0] 3 1 1 []) (kBlk 0 (kSeq (some [0, 2]) (fun s K => Jn
  (Γ false) shp n1 j94_4 s K) (finK (Γ true) rc false (shp 94) (SFunc.results sf94) (List.length [([Lf.lst 5, Lf.int iK], [X.d (D.list 5 z2), X.d (D.int iK z3)])]))))
noncomputable def q56_3 (Γ : Bool → SemL) (n1 : Nat) (z2 : List (List D)) (z3 x0 : Int) (r1 : List (List D)) (x2 x3 x4 : Int) (s5 : ByteArray) (x6 x7 x8 x9 : Int) (s10 : ByteArray) (r11 r12 r13 : List (List D)) (x14 x15 x16 x17 : Int) (s18 : ByteArray) (r19 : List (List D)) (x20 x21 : Int) : Option Out := Jn (Γ false) shp n1 j56_3 (St.mk [(0, V.one (X.ptr 0 0)), (1, V.one (X.d (D.int iK x0))), (4, V.one (X.ptr 1 0)), (5, V.one (X.ptr 2
  0)), (8, V.one (X.ptr 3 0))] [(0, Blk.mk [Lf.lst 5, Lf.int iK] [X.d (D.list 5 r1), X.d (D.int iK x2)]), (1, Blk.mk [Lf.int iK, Lf.int iK, Lf.str, Lf.lst
  1, Lf.lst 1, Lf.lst 8, Lf.int iK, Lf.int iK] [X.d (D.int iK x3), X.d (D.int iK x4), X.d (D.str s5), X.nilL 1, X.nilL 1, X.nilL 8, X.d (D.int iK
  x6), X.d (D.int iK x7)]), (2, Blk.mk [Lf.int iK, Lf.int iK, Lf.str, Lf.lst 1, Lf.lst 1, Lf.lst 8, Lf.int iK, Lf.int iK] [X.d (D.int iK
  x8), X.d (D.int iK x9), X.d (D.str s10), X.d (D.list 1 r11), X.d (D.list 1 r12), X.d (D.list 8 r13), X.d (D.int iK x14), X.d (D.int iK x15)]), (3, Blk.mk [Lf.int
  iK, Lf.int iK, Lf.str, Lf.lst 1, Lf.lst 1, Lf.lst 8, Lf.int iK, Lf.int iK] [X.d (D.int iK x16), X.d (D.int iK x17), X.d (D.str s18),
  X.nilL 1, X.nilL 1, X.own 0 27 8 r19, X.d (D.int iK x20), X.d (D.int iK x21)])] [0] 4 1 1 []) (kBlk 1 (kLoop (loopK (Γ false) shp n1) [0, 1, 4, 5] lb56_0 (kBlk 0 (finK (Γ
  true) rc false (shp 56) (SFunc.results sf56) (List.length [([Lf.lst 5, Lf.int iK], [X.d (D.list 5 z2), X.d (D.int iK z3)])])))))
noncomputable def q101_1 (Γ : Bool → SemL) (n1 : Nat) (n2 : Nat) (z3 : List (List D)) (z4 : Int) (s0 : ByteArray) (r1 r2 : List (List D)) (x3 : Int) : Option Out := Jn (Γ
  false) shp n1 j101_1 (St.mk [(0, V.one (X.ptr 0 0)), (1, V.one (X.d (D.str s0))), (5, V.one (X.own 0 27 8 r1))] [(0, Blk.mk [Lf.lst 5, Lf.int iK] [X.d (D.list 5 r2), X.d (D.int
  iK x3)])] [0] 1 1 1 []) (kLoop (loopK (Γ false) shp n1) [0, 1, 5] lb101_0 (kBlk 0 (kSeq (some [0, 1, 5]) (fun s K => Jn (Γ false) shp n2 j101_2 s K) (finK (Γ true) rc false (shp
  101) (SFunc.results sf101) (List.length [([Lf.lst 5, Lf.int iK], [X.d (D.list 5 z3), X.d (D.int iK z4)])])))))
noncomputable def q101_2 (Γ : Bool → SemL) (n1 : Nat) (z2 : List (List D)) (z3 : Int) (s0 : ByteArray) (r1 r2 : List (List D)) (x3 : Int) : Option Out := Jn (Γ false) shp n1
  j101_2 (St.mk [(0, V.one (X.ptr 0 0)), (1, V.one (X.d (D.str s0))), (5, V.one (X.own 0 27 8 r1))] [(0, Blk.mk [Lf.lst 5, Lf.int iK] [X.d (D.list 5 r2), X.d (D.int iK
  x3)])] [0] 1 1 1 []) (finK (Γ true) rc false (shp 101) (SFunc.results sf101) (List.length [([Lf.lst 5, Lf.int iK], [X.d (D.list 5 z2), X.d (D.int iK z3)])]))
noncomputable def l56_0_v1 (n0 : Nat) (Γ : Bool → SemL) (z2 : List (List D)) (z3 x0 : Int) (r1 : List (List D)) (x2 x3 x4 : Int) (s5 : ByteArray) (x6 x7 x8 x9 : Int) (s10 : ByteArray) (r11 : List (List D)) (x12 x13 : Int) : Option Out := loopK (Γ false) shp n0 [0, 1, 4, 5] lb56_0 (St.mk [(0, V.one (X.ptr 0 0)), (1, V.one
  (X.d (D.int iK x0))), (4, V.one (X.ptr 1 0)), (5, V.one (X.ptr 2 0))] [(0, Blk.mk [Lf.lst 5, Lf.int iK] [X.d (D.list 5 r1), X.d (D.int iK x2)]), (1, Blk.mk
  [Lf.int iK, Lf.int iK, Lf.str, Lf.lst 1, Lf.lst 1, Lf.lst 8, Lf.int iK, Lf.int iK] [X.d (D.int iK x3), X.d (D.int iK x4), X.d (D.str
  s5), X.nilL 1, X.nilL 1, X.nilL 8, X.d (D.int iK x6), X.d (D.int iK x7)]), (2, Blk.mk [Lf.int iK, Lf.int iK, Lf.str, Lf.lst 1, Lf.lst 1, Lf.lst 8, Lf.int
  iK, Lf.int iK] [X.d (D.int iK x8), X.d (D.int iK x9), X.d (D.str s10), X.nilL 1, X.nilL 1, X.own 0 27 8 r11, X.d (D.int iK x12), X.d (D.int
  iK x13)])] [0] 3 1 1 []) (kBlk 0 (finK (Γ true) rc false (shp 56) (SFunc.results sf56) (List.length [([Lf.lst 5, Lf.int iK], [X.d (D.list 5 z2), X.d (D.int iK
  z3)])])))
noncomputable def q56_1_v1 (Γ : Bool → SemL) (n1 : Nat) (z2 : List (List D)) (z3 x0 : Int) (s1 : ByteArray) (r2 : List (List D)) (x3 x4 x5 : Int) (s6 : ByteArray) (x7 x8 x9 x10 : Int) (s11 : ByteArray) (r12 : List (List D)) (x13 x14 x15 : Int) (s16 : ByteArray) (x17 x18 x19 : Int) : Option Out := Jn
  (Γ false) shp n1 j56_1 (St.mk [(0, V.one (X.ptr 0 0)), (1, V.one (X.d (D.int iK x0))), (4, V.one (X.ptr 1 0)), (5, V.one (X.ptr 2 0)), (6, V.one (X.ptr 3 0)), (7, V.one (X.d (D.str
  s1)))] [(0, Blk.mk [Lf.lst 5, Lf.int iK] [X.d (D.list 5 r2), X.d (D.int iK x3)]), (1, Blk.mk [Lf.int iK, Lf.int iK, Lf.str, Lf.lst 1, Lf.lst 1, Lf.lst 8,
  Lf.int iK, Lf.int iK] [X.d (D.int iK x4), X.d (D.int iK x5), X.d (D.str s6), X.nilL 1, X.nilL 1, X.nilL 8, X.d (D.int iK x7), X.d (D.int
  iK x8)]), (2, Blk.mk [Lf.int iK, Lf.int iK, Lf.str, Lf.lst 1, Lf.lst 1, Lf.lst 8, Lf.int iK, Lf.int iK] [X.d (D.int iK x9), X.d (D.int
  iK x10), X.d (D.str s11), X.nilL 1, X.nilL 1, X.own 0 27 8 r12, X.d (D.int iK x13), X.d (D.int iK x14)]), (3, Blk.mk [Lf.int iK, Lf.str, Lf.int
  iK, Lf.int iK, Lf.int iK] [X.d (D.int iK x15), X.d (D.str s16), X.d (D.int iK x17), X.d (D.int iK x18), X.d (D.int iK x19)])]
  [0] 4 1 1 []) (kBlk 1 (kLoop (loopK (Γ false) shp n1) [0, 1, 4, 5] lb56_0 (kBlk 0 (finK (Γ true) rc false (shp 56) (SFunc.results sf56) (List.length [([Lf.lst 5, Lf.int iK], [X.d
  (D.list 5 z2), X.d (D.int iK z3)])])))))
noncomputable def q56_2_v1 (Γ : Bool → SemL) (n1 : Nat) (z2 : List (List D)) (z3 x0 x1 : Int) (r2 : List (List D)) (x3 x4 x5 : Int) (s6 : ByteArray) (x7 x8 x9 x10 : Int) (s11 : ByteArray) (r12 : List (List D)) (x13 x14 x15 x16 : Int) (s17 : ByteArray) (x18 x19 : Int) : Option Out := Jn (Γ
  false) shp n1 j56_2 (St.mk [(0, V.one (X.ptr 0 0)), (1, V.one (X.d (D.int iK x0))), (4, V.one (X.ptr 1 0)), (5, V.one (X.ptr 2 0)), (8, V.one (X.ptr 3 0)), (9, V.one (X.d (D.int
  iK x1)))] [(0, Blk.mk [Lf.lst 5, Lf.int iK] [X.d (D.list 5 r2), X.d (D.int iK x3)]), (1, Blk.mk [Lf.int iK, Lf.int iK, Lf.str, Lf.lst 1, Lf.lst
  1, Lf.lst 8, Lf.int iK, Lf.int iK] [X.d (D.int iK x4), X.d (D.int iK x5), X.d (D.str s6), X.nilL 1, X.nilL 1, X.nilL 8, X.d (D.int iK x7), X.d
  (D.int iK x8)]), (2, Blk.mk [Lf.int iK, Lf.int iK, Lf.str, Lf.lst 1, Lf.lst 1, Lf.lst 8, Lf.int iK, Lf.int iK] [X.d (D.int iK x9), X.d
  (D.int iK x10), X.d (D.str s11), X.nilL 1, X.nilL 1, X.own 0 27 8 r12, X.d (D.int iK x13), X.d (D.int iK x14)]), (3, Blk.mk [Lf.int iK, Lf.int
  iK, Lf.str, Lf.lst 1, Lf.lst 1, Lf.lst 8, Lf.int iK, Lf.int iK] [X.d (D.int iK x15), X.d (D.int iK x16), X.d (D.str s17), X.nilL 1, X.nilL 1,
  X.nilL 8, X.d (D.int iK x18), X.d (D.int iK x19)])] [0] 4 1 1 []) (kBlk 1 (kLoop (loopK (Γ false) shp n1) [0, 1, 4, 5] lb56_0 (kBlk 0 (finK (Γ true) rc false (shp 56)
  (SFunc.results sf56) (List.length [([Lf.lst 5, Lf.int iK], [X.d (D.list 5 z2), X.d (D.int iK z3)])])))))
noncomputable def q56_3_v1 (Γ : Bool → SemL) (n1 : Nat) (z2 : List (List D)) (z3 x0 : Int) (r1 : List (List D)) (x2 x3 x4 : Int) (s5 : ByteArray) (x6 x7 x8 x9 : Int) (s10 : ByteArray) (r11 : List (List D)) (x12 x13 x14 x15 : Int) (s16 : ByteArray) (r17 : List (List D)) (x18 x19 : Int) : Option Out :=
  Jn (Γ false) shp n1 j56_3 (St.mk [(0, V.one (X.ptr 0 0)), (1, V.one (X.d (D.int iK x0))), (4, V.one (X.ptr 1 0)), (5, V.one (X.ptr 2 0)), (8, V.one (X.ptr 3 0))] [(0, Blk.mk
  [Lf.lst 5, Lf.int iK] [X.d (D.list 5 r1), X.d (D.int iK x2)]), (1, Blk.mk [Lf.int iK, Lf.int iK, Lf.str, Lf.lst 1, Lf.lst 1, Lf.lst 8, Lf.int
  iK, Lf.int iK] [X.d (D.int iK x3), X.d (D.int iK x4), X.d (D.str s5), X.nilL 1, X.nilL 1, X.nilL 8, X.d (D.int iK x6), X.d (D.int iK
  x7)]), (2, Blk.mk [Lf.int iK, Lf.int iK, Lf.str, Lf.lst 1, Lf.lst 1, Lf.lst 8, Lf.int iK, Lf.int iK] [X.d (D.int iK x8), X.d (D.int iK
  x9), X.d (D.str s10), X.nilL 1, X.nilL 1, X.own 0 27 8 r11, X.d (D.int iK x12), X.d (D.int iK x13)]), (3, Blk.mk [Lf.int iK, Lf.int iK, Lf.str, Lf.lst 1,
  Lf.lst 1, Lf.lst 8, Lf.int iK, Lf.int iK] [X.d (D.int iK x14), X.d (D.int iK x15), X.d (D.str s16), X.nilL 1, X.nilL 1, X.own 1 27 8 r17, X.d (D.int
  iK x18), X.d (D.int iK x19)])] [0, 1] 4 2 1 []) (kBlk 1 (kLoop (loopK (Γ false) shp n1) [0, 1, 4, 5] lb56_0 (kBlk 0 (finK (Γ true) rc false (shp 56) (SFunc.results sf56)
  (List.length [([Lf.lst 5, Lf.int iK], [X.d (D.list 5 z2), X.d (D.int iK z3)])])))))
theorem e57_eq (Γ : Bool → SemL) (n1 : Nat) (x0 x1 : Int) (s2 : ByteArray) (r3 r4 r5 : List (List D)) (x6 x7 x8 : Int) : e57 Γ n1
  x0 x1 s2 r3 r4 r5 x6 x7 x8 = bif decide (x8 < 1) then some (Out.mk true (V.tup [V.agg [X.d (D.int iK x0), X.d (D.int iK x1), X.d (D.str s2), X.d (D.list 1 r3), X.d (D.list
  1 r4), X.d (D.list 8 r5), X.d (D.int iK x6), X.d (D.int iK x7)], V.one (X.d (D.bool true))]) D.junk [] 0) else q57_0 Γ n1 x8 x0 x1 s2 r3 r4 r5 x6 x7 0 0 (ByteArray.mk #[])
  0 0 := (run_step ..).trans (by kernel_rfl)
theorem q57_0_eq (Γ : Bool → SemL) (n1 : Nat) (x0 x1 x2 : Int) (s3 : ByteArray) (r4 r5 r6 : List (List D)) (x7 x8 x9 x10 : Int) (s11 : ByteArray) (x12 x13 : Int) : q57_0 Γ n1 x0 x1 x2 s3 r4 r5 r6 x7 x8 x9 x10 s11 x12 x13 = l57_0 n1 Γ n1 x0 r6 (Int.ofNat (List.length r6)) 0 x9 x10 s11 x12 x13 :=
  (Jn_step ..).trans (by kernel_rfl)
theorem e24_eq (Γ : Bool → SemL) (n1 : Nat) (r0 : List (List D)) (x1 : Int) : e24 Γ n1 r0 x1 = r_a5ISIII_L5I (Γ false 49 [V.one (X.ptr 0 0)] [([Lf.lst 5, Lf.int iK], [X.d (D.list 5
  r0), X.d (D.int iK x1)])]) (fun i0_ u1_ i2_ i3_ i4_ w5_ i6_ => r_oB_L5I (Γ false 51 [V.one (X.ptr 0 0), V.one (X.d (D.str (ByteArray.mk #[108, 101, 116])))] [([Lf.lst 5, Lf.int
  iK], [X.d (D.list 5 w5_), X.d (D.int iK i6_)])]) (fun c10_ w11_ i12_ => bif c10_ then r_a8IISN1N1N8II (Γ false 52 [V.one (X.d (D.int iK 8)), V.agg [X.d (D.int
  iK i0_), X.d (D.str u1_), X.d (D.int iK i2_), X.d (D.int iK i3_), X.d (D.int iK i4_)]] []) (fun i16_ i17_ u18_ i19_ i20_ => r_oB_L5I (Γ false 51 [V.one
  (X.ptr 0 0), V.one (X.d (D.str (ByteArray.mk #[40])))] [([Lf.lst 5, Lf.int iK], [X.d (D.list 5 w11_), X.d (D.int iK i12_)])]) (fun c22_ w23_ i24_ => bif c22_ then
  r_a5ISIII_L5I (Γ false 53 [V.one (X.ptr 0 0), V.one (X.d (D.int iK 1))] [([Lf.lst 5, Lf.int iK], [X.d (D.list 5 w23_), X.d (D.int iK i24_)])]) (fun i28_ u29_ i30_
  i31_ i32_ w33_ i34_ => r_n_L5I (Γ false 54 [V.one (X.ptr 0 0), V.one (X.d (D.str (ByteArray.mk #[44])))] [([Lf.lst 5, Lf.int iK], [X.d (D.list 5 w33_), X.d (D.int iK
  i34_)])]) (fun w38_ i39_ => r_a5ISIII_L5I (Γ false 53 [V.one (X.ptr 0 0), V.one (X.d (D.int iK 1))] [([Lf.lst 5, Lf.int iK], [X.d (D.list 5 w38_), X.d (D.int iK
  i39_)])]) (fun i43_ u44_ i45_ i46_ i47_ w48_ i49_ => l24_0 n1 Γ n1 r0 x1 w48_ i49_ 0 0 (ByteArray.mk #[]) 0 0 i16_ i17_ u18_ [[D.str u29_], [D.str u44_]] i19_ i20_) fun d50_ w51_ i52_ =>
  some (Out.mk false V.junk d50_ [[X.d (D.list 5 w51_), X.d (D.int iK i52_)]] 0)) fun d40_ w41_ i42_ => some (Out.mk false V.junk d40_ [[X.d (D.list 5 w41_), X.d (D.int iK
  i42_)]] 0)) fun d35_ w36_ i37_ => some (Out.mk false V.junk d35_ [[X.d (D.list 5 w36_), X.d (D.int iK i37_)]] 0) else r_a5ISIII_L5I (Γ false 53 [V.one (X.ptr 0 0), V.one (X.d
  (D.int iK 1))] [([Lf.lst 5, Lf.int iK], [X.d (D.list 5 w23_), X.d (D.int iK i24_)])]) (fun i53_ u54_ i55_ i56_ i57_ w58_ i59_ => q24_2 Γ n1 r0 x1 w58_ i59_ 0 0
  (ByteArray.mk #[]) 0 0 i16_ i17_ u18_ [[D.str u54_]] i19_ i20_) fun d60_ w61_ i62_ => some (Out.mk false V.junk d60_ [[X.d (D.list 5 w61_), X.d (D.int iK i62_)]] 0)) fun d25_ w26_
  i27_ => some (Out.mk false V.junk d25_ [[X.d (D.list 5 w26_), X.d (D.int iK i27_)]] 0)) fun d21_ => some (Out.mk false V.junk d21_ [[X.d (D.list 5 w11_), X.d (D.int iK
  i12_)]] 0) else r_oB_L5I (Γ false 51 [V.one (X.ptr 0 0), V.one (X.d (D.str (ByteArray.mk #[105, 102])))] [([Lf.lst 5, Lf.int iK], [X.d (D.list 5 w11_), X.d (D.int iK
  i12_)])]) (fun c63_ w64_ i65_ => bif c63_ then r_a8IISN1N1N8II (Γ false 52 [V.one (X.d (D.int iK 9)), V.agg [X.d (D.int iK i0_), X.d (D.str u1_), X.d (D.int iK
  i2_), X.d (D.int iK i3_), X.d (D.int iK i4_)]] []) (fun i69_ i70_ u71_ i72_ i73_ => r_a8IISL1L1L8II_L5I (Γ false 24 [V.one (X.ptr 0 0)] [([Lf.lst 5, Lf.int iK],
  [X.d (D.list 5 w64_), X.d (D.int iK i65_)])]) (fun i75_ i76_ u77_ w78_ w79_ w80_ i81_ i82_ w83_ i84_ => r_n_L5I (Γ false 54 [V.one (X.ptr 0 0), V.one (X.d (D.str (ByteArray.mk
  #[116, 104, 101, 110])))] [([Lf.lst 5, Lf.int iK], [X.d (D.list 5 w83_), X.d (D.int iK i84_)])]) (fun w88_ i89_ => r_a8IISL1L1L8II_L5I (Γ false 24 [V.one (X.ptr 0 0)]
  [([Lf.lst 5, Lf.int iK], [X.d (D.list 5 w88_), X.d (D.int iK i89_)])]) (fun i93_ i94_ u95_ w96_ w97_ w98_ i99_ i100_ w101_ i102_ => r_n_L5I (Γ false 54 [V.one (X.ptr 0 0),
  V.one (X.d (D.str (ByteArray.mk #[101, 108, 115, 101])))] [([Lf.lst 5, Lf.int iK], [X.d (D.list 5 w101_), X.d (D.int iK i102_)])]) (fun w106_ i107_ => r_a8IISL1L1L8II_L5I
  (Γ false 24 [V.one (X.ptr 0 0)] [([Lf.lst 5, Lf.int iK], [X.d (D.list 5 w106_), X.d (D.int iK i107_)])]) (fun i111_ i112_ u113_ w114_ w115_ w116_ i117_ i118_ w119_ i120_
  => some (Out.mk true (V.agg [X.d (D.int iK i69_), X.d (D.int iK i70_), X.d (D.str u71_), X.d (D.list 1 []), X.d (D.list 1 []), X.d (D.list 8 [[D.int iK i75_,
  D.int iK i76_, D.str u77_, D.list 1 w78_, D.list 1 w79_, D.list 8 w80_, D.int iK i81_, D.int iK i82_], [D.int iK i93_, D.int iK i94_, D.str
  u95_, D.list 1 w96_, D.list 1 w97_, D.list 8 w98_, D.int iK i99_, D.int iK i100_], [D.int iK i111_, D.int iK i112_, D.str u113_, D.list 1 w114_, D.list 1
  w115_, D.list 8 w116_, D.int iK i117_, D.int iK i118_]]), X.d (D.int iK i72_), X.d (D.int iK i73_)]) D.junk [[X.d (D.list 5 w119_), X.d (D.int
  iK i120_)]] 0)) fun d121_ w122_ i123_ => some (Out.mk false V.junk d121_ [[X.d (D.list 5 w122_), X.d (D.int iK i123_)]] 0)) fun d108_ w109_ i110_ => some (Out.mk false
  V.junk d108_ [[X.d (D.list 5 w109_), X.d (D.int iK i110_)]] 0)) fun d103_ w104_ i105_ => some (Out.mk false V.junk d103_ [[X.d (D.list 5 w104_), X.d (D.int iK i105_)]] 0))
  fun d90_ w91_ i92_ => some (Out.mk false V.junk d90_ [[X.d (D.list 5 w91_), X.d (D.int iK i92_)]] 0)) fun d85_ w86_ i87_ => some (Out.mk false V.junk d85_ [[X.d (D.list 5 w86_),
  X.d (D.int iK i87_)]] 0)) fun d74_ => some (Out.mk false V.junk d74_ [[X.d (D.list 5 w64_), X.d (D.int iK i65_)]] 0) else r_oB_L5I (Γ false 51 [V.one (X.ptr 0 0), V.one
  (X.d (D.str (ByteArray.mk #[99, 97, 115, 101])))] [([Lf.lst 5, Lf.int iK], [X.d (D.list 5 w64_), X.d (D.int iK i65_)])]) (fun c124_ w125_ i126_ => bif c124_ then
  r_a8IISN1N1N8II (Γ false 52 [V.one (X.d (D.int iK 10)), V.agg [X.d (D.int iK i0_), X.d (D.str u1_), X.d (D.int iK i2_), X.d (D.int iK i3_), X.d (D.int
  iK i4_)]] []) (fun i130_ i131_ u132_ i133_ i134_ => r_a8IISL1L1L8II_L5I (Γ false 24 [V.one (X.ptr 0 0)] [([Lf.lst 5, Lf.int iK], [X.d (D.list 5 w125_), X.d (D.int
  iK i126_)])]) (fun i136_ i137_ u138_ w139_ w140_ w141_ i142_ i143_ w144_ i145_ => l24_1 n1 Γ n1 r0 x1 [[D.str (ByteArray.mk #[111, 102])], [D.str (ByteArray.mk #[91])], [D.str
  (ByteArray.mk #[93])], [D.str (ByteArray.mk #[61, 62])]] 4 0 w144_ i145_ 0 0 (ByteArray.mk #[]) 0 0 i130_ i131_ u132_ [[D.int iK i136_, D.int iK i137_, D.str u138_, D.list
  1 w139_, D.list 1 w140_, D.list 8 w141_, D.int iK i142_, D.int iK i143_]] i133_ i134_) fun d146_ w147_ i148_ => some (Out.mk false V.junk d146_ [[X.d (D.list 5 w147_), X.d
  (D.int iK i148_)]] 0)) fun d135_ => some (Out.mk false V.junk d135_ [[X.d (D.list 5 w125_), X.d (D.int iK i126_)]] 0) else r_oB_L5I (Γ false 51 [V.one (X.ptr 0 0), V.one
  (X.d (D.str (ByteArray.mk #[111, 98, 115, 101, 114, 118, 101])))] [([Lf.lst 5, Lf.int iK], [X.d (D.list 5 w125_), X.d (D.int iK i126_)])]) (fun c149_ w150_ i151_ => bif
  c149_ then r_a8IISN1N1N8II (Γ false 52 [V.one (X.d (D.int iK 11)), V.agg [X.d (D.int iK i0_), X.d (D.str u1_), X.d (D.int iK i2_), X.d (D.int iK i3_),
  X.d (D.int iK i4_)]] []) (fun i155_ i156_ u157_ i158_ i159_ => r_a8IISL1L1L8II_L5I (Γ false 24 [V.one (X.ptr 0 0)] [([Lf.lst 5, Lf.int iK], [X.d (D.list 5 w150_), X.d
  (D.int iK i151_)])]) (fun i161_ i162_ u163_ w164_ w165_ w166_ i167_ i168_ w169_ i170_ => r_n_L5I (Γ false 54 [V.one (X.ptr 0 0), V.one (X.d (D.str (ByteArray.mk #[105, 110])))]
  [([Lf.lst 5, Lf.int iK], [X.d (D.list 5 w169_), X.d (D.int iK i170_)])]) (fun w174_ i175_ => r_a8IISL1L1L8II_L5I (Γ false 24 [V.one (X.ptr 0 0)] [([Lf.lst 5, Lf.int
  iK], [X.d (D.list 5 w174_), X.d (D.int iK i175_)])]) (fun i179_ i180_ u181_ w182_ w183_ w184_ i185_ i186_ w187_ i188_ => some (Out.mk true (V.agg [X.d (D.int iK
  i155_), X.d (D.int iK i156_), X.d (D.str u157_), X.d (D.list 1 []), X.d (D.list 1 []), X.d (D.list 8 [[D.int iK i161_, D.int iK i162_, D.str u163_, D.list 1
  w164_, D.list 1 w165_, D.list 8 w166_, D.int iK i167_, D.int iK i168_], [D.int iK i179_, D.int iK i180_, D.str u181_, D.list 1 w182_, D.list 1 w183_,
  D.list 8 w184_, D.int iK i185_, D.int iK i186_]]), X.d (D.int iK i158_), X.d (D.int iK i159_)]) D.junk [[X.d (D.list 5 w187_), X.d (D.int iK
  i188_)]] 0)) fun d189_ w190_ i191_ => some (Out.mk false V.junk d189_ [[X.d (D.list 5 w190_), X.d (D.int iK i191_)]] 0)) fun d176_ w177_ i178_ => some (Out.mk false V.junk d176_
  [[X.d (D.list 5 w177_), X.d (D.int iK i178_)]] 0)) fun d171_ w172_ i173_ => some (Out.mk false V.junk d171_ [[X.d (D.list 5 w172_), X.d (D.int iK i173_)]] 0)) fun d160_ =>
  some (Out.mk false V.junk d160_ [[X.d (D.list 5 w150_), X.d (D.int iK i151_)]] 0) else r_oB_L5I (Γ false 51 [V.one (X.ptr 0 0), V.one (X.d (D.str (ByteArray.mk #[115, 99, 111, 114,
  101])))] [([Lf.lst 5, Lf.int iK], [X.d (D.list 5 w150_), X.d (D.int iK i151_)])]) (fun c192_ w193_ i194_ => bif c192_ then r_a8IISN1N1N8II (Γ false 52 [V.one (X.d (D.int
  iK 12)), V.agg [X.d (D.int iK i0_), X.d (D.str u1_), X.d (D.int iK i2_), X.d (D.int iK i3_), X.d (D.int iK i4_)]] []) (fun i198_ i199_ u200_
  i201_ i202_ => r_oL1_L5I (Γ false 55 [V.one (X.ptr 0 0)] [([Lf.lst 5, Lf.int iK], [X.d (D.list 5 w193_), X.d (D.int iK i194_)])]) (fun w204_ w205_ i206_ => r_n_L5I (Γ
  false 54 [V.one (X.ptr 0 0), V.one (X.d (D.str (ByteArray.mk #[105, 110])))] [([Lf.lst 5, Lf.int iK], [X.d (D.list 5 w205_), X.d (D.int iK i206_)])]) (fun w210_ i211_ =>
  r_a8IISL1L1L8II_L5I (Γ false 24 [V.one (X.ptr 0 0)] [([Lf.lst 5, Lf.int iK], [X.d (D.list 5 w210_), X.d (D.int iK i211_)])]) (fun i215_ i216_ u217_ w218_ w219_ w220_ i221_
  i222_ w223_ i224_ => some (Out.mk true (V.agg [X.d (D.int iK i198_), X.d (D.int iK i199_), X.d (D.str u200_), X.d (D.list 1 []), X.d (D.list 1 w204_), X.d (D.list 8
  [[D.int iK i215_, D.int iK i216_, D.str u217_, D.list 1 w218_, D.list 1 w219_, D.list 8 w220_, D.int iK i221_, D.int iK i222_]]), X.d (D.int iK
  i201_), X.d (D.int iK i202_)]) D.junk [[X.d (D.list 5 w223_), X.d (D.int iK i224_)]] 0)) fun d225_ w226_ i227_ => some (Out.mk false V.junk d225_ [[X.d (D.list 5 w226_),
  X.d (D.int iK i227_)]] 0)) fun d212_ w213_ i214_ => some (Out.mk false V.junk d212_ [[X.d (D.list 5 w213_), X.d (D.int iK i214_)]] 0)) fun d207_ w208_ i209_ => some
  (Out.mk false V.junk d207_ [[X.d (D.list 5 w208_), X.d (D.int iK i209_)]] 0)) fun d203_ => some (Out.mk false V.junk d203_ [[X.d (D.list 5 w193_), X.d (D.int iK i194_)]]
  0) else q24_6 Γ n1 r0 x1 w193_ i194_ 0 0 (ByteArray.mk #[]) 0 0) fun d195_ w196_ i197_ => some (Out.mk false V.junk d195_ [[X.d (D.list 5 w196_), X.d (D.int iK i197_)]] 0)) fun
  d152_ w153_ i154_ => some (Out.mk false V.junk d152_ [[X.d (D.list 5 w153_), X.d (D.int iK i154_)]] 0)) fun d127_ w128_ i129_ => some (Out.mk false V.junk d127_ [[X.d (D.list 5
  w128_), X.d (D.int iK i129_)]] 0)) fun d66_ w67_ i68_ => some (Out.mk false V.junk d66_ [[X.d (D.list 5 w67_), X.d (D.int iK i68_)]] 0)) fun d13_ w14_ i15_ => some (Out.mk
  false V.junk d13_ [[X.d (D.list 5 w14_), X.d (D.int iK i15_)]] 0)) fun d7_ w8_ i9_ => some (Out.mk false V.junk d7_ [[X.d (D.list 5 w8_), X.d (D.int iK i9_)]] 0) :=
  (run_step ..).trans (by kernel_rfl)
theorem l57_0_eq (n0 : Nat) (Γ : Bool → SemL) (n2 : Nat) (x0 : Int) (r1 : List (List D)) (x2 x3 x4 x5 : Int) (s6 : ByteArray) (x7 x8 : Int) : l57_0 (n0 + 1) Γ
  n2 x0 r1 x2 x3 x4 x5 s6 x7 x8 = bif decide (x3 < x2) then q57_1 Γ n0 n2 x0 r1 x2 x3 x4 x5 s6 x7 x8 else q57_3 Γ n2 x4 x5 s6 x7 x8 := (loop_step ..).trans (by kernel_rfl)
theorem l24_0_eq (n0 : Nat) (Γ : Bool → SemL) (n2 : Nat) (z3 : List (List D)) (z4 : Int) (r0 : List (List D)) (x1 x2 x3 : Int) (s4 : ByteArray) (x5 x6 x7 x8 : Int) (s9 : ByteArray) (r10 : List (List D)) (x11 x12 : Int) : l24_0 (n0 + 1) Γ n2 z3 z4 r0 x1 x2 x3 s4 x5 x6 x7 x8 s9 r10 x11 x12 = r_oB_L5I (Γ false 51 [V.one (X.ptr 0
  0), V.one (X.d (D.str (ByteArray.mk #[44])))] [([Lf.lst 5, Lf.int iK], [X.d (D.list 5 r0), X.d (D.int iK x1)])]) (fun c0_ w1_ i2_ => bif c0_ then q24_0 Γ n0 n2 z3 z4 w1_
  i2_ x2 x3 s4 x5 x6 x7 x8 s9 r10 x11 x12 else q24_1 Γ n2 z3 z4 w1_ i2_ x2 x3 s4 x5 x6 x7 x8 s9 r10 x11 x12) fun d3_ w4_ i5_ => some (Out.mk false V.junk d3_ [[X.d (D.list 5 w4_), X.d (D.int
  iK i5_)]] 0) := (loop_step ..).trans (by kernel_rfl)
theorem q24_2_eq (Γ : Bool → SemL) (n1 : Nat) (z2 : List (List D)) (z3 : Int) (r0 : List (List D)) (x1 x2 x3 : Int) (s4 : ByteArray) (x5 x6 x7 x8 : Int) (s9 : ByteArray) (r10 : List (List D)) (x11 x12 : Int) : q24_2 Γ n1 z2 z3 r0 x1 x2 x3 s4 x5 x6 x7 x8 s9 r10 x11 x12 = r_n_L5I (Γ false 54 [V.one (X.ptr 0 0), V.one (X.d (D.str
  (ByteArray.mk #[61])))] [([Lf.lst 5, Lf.int iK], [X.d (D.list 5 r0), X.d (D.int iK x1)])]) (fun w0_ i1_ => r_a8IISL1L1L8II_L5I (Γ false 24 [V.one (X.ptr 0 0)] [([Lf.lst 5,
  Lf.int iK], [X.d (D.list 5 w0_), X.d (D.int iK i1_)])]) (fun i5_ i6_ u7_ w8_ w9_ w10_ i11_ i12_ w13_ i14_ => r_n_L5I (Γ false 54 [V.one (X.ptr 0 0), V.one (X.d (D.str
  (ByteArray.mk #[105, 110])))] [([Lf.lst 5, Lf.int iK], [X.d (D.list 5 w13_), X.d (D.int iK i14_)])]) (fun w18_ i19_ => r_a8IISL1L1L8II_L5I (Γ false 24 [V.one (X.ptr 0 0)]
  [([Lf.lst 5, Lf.int iK], [X.d (D.list 5 w18_), X.d (D.int iK i19_)])]) (fun i23_ i24_ u25_ w26_ w27_ w28_ i29_ i30_ w31_ i32_ => some (Out.mk true (V.agg [X.d (D.int
  iK x7), X.d (D.int iK x8), X.d (D.str s9), X.d (D.list 1 r10), X.d (D.list 1 []), X.d (D.list 8 [[D.int iK i5_, D.int iK i6_, D.str u7_, D.list 1 w8_,
  D.list 1 w9_, D.list 8 w10_, D.int iK i11_, D.int iK i12_], [D.int iK i23_, D.int iK i24_, D.str u25_, D.list 1 w26_, D.list 1 w27_, D.list 8 w28_, D.int
  iK i29_, D.int iK i30_]]), X.d (D.int iK x11), X.d (D.int iK x12)]) D.junk [[X.d (D.list 5 w31_), X.d (D.int iK i32_)]] 0)) fun d33_ w34_ i35_
  => some (Out.mk false V.junk d33_ [[X.d (D.list 5 w34_), X.d (D.int iK i35_)]] 0)) fun d20_ w21_ i22_ => some (Out.mk false V.junk d20_ [[X.d (D.list 5 w21_), X.d (D.int
  iK i22_)]] 0)) fun d15_ w16_ i17_ => some (Out.mk false V.junk d15_ [[X.d (D.list 5 w16_), X.d (D.int iK i17_)]] 0)) fun d2_ w3_ i4_ => some (Out.mk false V.junk d2_ [[X.d
  (D.list 5 w3_), X.d (D.int iK i4_)]] 0) := (Jn_step ..).trans (by kernel_rfl)
theorem l24_1_eq (n0 : Nat) (Γ : Bool → SemL) (n2 : Nat) (z3 : List (List D)) (z4 : Int) (r0 : List (List D)) (x1 x2 : Int) (r3 : List (List D)) (x4 x5 x6 : Int) (s7 :
  ByteArray) (x8 x9 x10 x11 : Int) (s12 : ByteArray) (r13 : List (List D)) (x14 x15 : Int) : l24_1 (n0 + 1) Γ n2 z3 z4 r0 x1 x2 r3 x4 x5 x6 s7 x8 x9 x10 x11
  s12 r13 x14 x15 = bif decide (x2 < x1) then q24_3 Γ n0 n2 z3 z4 r0 x1 x2 r3 x4 x5 x6 s7 x8 x9 x10 x11 s12 r13 x14 x15 else q24_5 Γ n2 z3 z4 r3 x4 x5 x6 s7 x8 x9 x10 x11 s12 r13 x14 x15 :=
  (loop_step ..).trans (by kernel_rfl)
theorem q24_6_eq (Γ : Bool → SemL) (n1 : Nat) (z2 : List (List D)) (z3 : Int) (r0 : List (List D)) (x1 x2 x3 : Int) (s4 : ByteArray) (x5 x6 : Int) : q24_6 Γ n1 z2 z3
  r0 x1 x2 x3 s4 x5 x6 = r_a8IISL1L1L8II_L5I (Γ false 56 [V.one (X.ptr 0 0), V.one (X.d (D.int iK 0))] [([Lf.lst 5, Lf.int iK], [X.d (D.list 5 r0), X.d (D.int iK
  x1)])]) (fun i0_ i1_ u2_ w3_ w4_ w5_ i6_ i7_ w8_ i9_ => some (Out.mk true (V.agg [X.d (D.int iK i0_), X.d (D.int iK i1_), X.d (D.str u2_), X.d (D.list 1 w3_), X.d (D.list
  1 w4_), X.d (D.list 8 w5_), X.d (D.int iK i6_), X.d (D.int iK i7_)]) D.junk [[X.d (D.list 5 w8_), X.d (D.int iK i9_)]] 0)) fun d10_ w11_ i12_ => some (Out.mk
  false V.junk d10_ [[X.d (D.list 5 w11_), X.d (D.int iK i12_)]] 0) := (Jn_step ..).trans (by kernel_rfl)
theorem q57_1_eq (Γ : Bool → SemL) (n1 : Nat) (n2 : Nat) (x0 : Int) (r1 : List (List D)) (x2 x3 x4 x5 : Int) (s6 : ByteArray) (x7 x8 : Int) : q57_1 Γ n1 n2 x0
  r1 x2 x3 x4 x5 s6 x7 x8 = bif decide (0 ≤ x3) && decide (x3 < Int.ofNat (List.length r1)) then r_t2a8IISL1L1L8IIoB (Γ false 57 [V.agg [X.d (List.getD (List.getD r1 (Int.toNat x3) []) 0
  D.junk), X.d (List.getD (List.getD r1 (Int.toNat x3) []) 1 D.junk), X.d (List.getD (List.getD r1 (Int.toNat x3) []) 2 D.junk), X.d (List.getD (List.getD r1 (Int.toNat x3) []) 3 D.junk), X.d
  (List.getD (List.getD r1 (Int.toNat x3) []) 4 D.junk), X.d (List.getD (List.getD r1 (Int.toNat x3) []) 5 D.junk), X.d (List.getD (List.getD r1 (Int.toNat x3) []) 6 D.junk), X.d (List.getD
  (List.getD r1 (Int.toNat x3) []) 7 D.junk)], V.one (X.d (D.int iK (IntKind.wrap iK (x0 - 1))))] []) (fun i0_ i1_ u2_ w3_ w4_ w5_ i6_ i7_ c8_ => bif c8_ then some (Out.mk
  true (V.tup [V.agg [X.d (D.int iK i0_), X.d (D.int iK i1_), X.d (D.str u2_), X.d (D.list 1 w3_), X.d (D.list 1 w4_), X.d (D.list 8 w5_), X.d (D.int iK i6_), X.d
  (D.int iK i7_)], V.one (X.d (D.bool true))]) D.junk [] 0) else q57_2 Γ n1 n2 x0 r1 x2 x3 x4 x5 s6 x7 x8) fun d9_ => some (Out.mk false V.junk d9_ [] 0) else none := (Jn_step
  ..).trans (by kernel_rfl)
theorem q57_3_eq (Γ : Bool → SemL) (n1 : Nat) (x0 x1 : Int) (s2 : ByteArray) (x3 x4 : Int) : q57_3 Γ n1 x0 x1 s2 x3 x4 = some (Out.mk true (V.tup [V.agg [X.d (D.int
  iK 0), X.d (D.int iK 0), X.d (D.str (ByteArray.mk #[])), X.d (D.list 1 []), X.d (D.list 1 []), X.d (D.list 8 []), X.d (D.int iK 0), X.d (D.int iK 0)],
  V.one (X.d (D.bool false))]) D.junk [] 0) := (Jn_step ..).trans (by kernel_rfl)
theorem q24_0_eq (Γ : Bool → SemL) (n1 : Nat) (n2 : Nat) (z3 : List (List D)) (z4 : Int) (r0 : List (List D)) (x1 x2 x3 : Int) (s4 : ByteArray) (x5 x6 x7 x8 : Int) (s9 : ByteArray) (r10 : List (List D)) (x11 x12 : Int) : q24_0 Γ n1 n2 z3 z4 r0 x1 x2 x3 s4 x5 x6 x7 x8 s9 r10 x11 x12 = r_a5ISIII_L5I (Γ false 53 [V.one (X.ptr 0
  0), V.one (X.d (D.int iK 1))] [([Lf.lst 5, Lf.int iK], [X.d (D.list 5 r0), X.d (D.int iK x1)])]) (fun i0_ u1_ i2_ i3_ i4_ w5_ i6_ => bif true && true && true &&
  Nat.ble ((List.length r10 + List.length [[D.str u1_]]) * 17) 140737488355328 then l24_0 n1 Γ n2 z3 z4 w5_ i6_ x2 x3 s4 x5 x6 x7 x8 s9 (r10 ++ [[D.str u1_]]) x11 x12 else none) fun d7_ w8_
  i9_ => some (Out.mk false V.junk d7_ [[X.d (D.list 5 w8_), X.d (D.int iK i9_)]] 0) := (Jn_step ..).trans (by kernel_rfl)
theorem q24_1_eq (Γ : Bool → SemL) (n1 : Nat) (z2 : List (List D)) (z3 : Int) (r0 : List (List D)) (x1 x2 x3 : Int) (s4 : ByteArray) (x5 x6 x7 x8 : Int) (s9 : ByteArray) (r10 : List (List D)) (x11 x12 : Int) : q24_1 Γ n1 z2 z3 r0 x1 x2 x3 s4 x5 x6 x7 x8 s9 r10 x11 x12 = r_n_L5I (Γ false 54 [V.one (X.ptr 0 0), V.one (X.d (D.str
  (ByteArray.mk #[41])))] [([Lf.lst 5, Lf.int iK], [X.d (D.list 5 r0), X.d (D.int iK x1)])]) (fun w0_ i1_ => q24_2 Γ n1 z2 z3 w0_ i1_ x2 x3 s4 x5 x6 x7 x8 s9 r10 x11 x12)
  fun d2_ w3_ i4_ => some (Out.mk false V.junk d2_ [[X.d (D.list 5 w3_), X.d (D.int iK i4_)]] 0) := (Jn_step ..).trans (by kernel_rfl)
theorem q24_3_eq (Γ : Bool → SemL) (n1 : Nat) (n2 : Nat) (z3 : List (List D)) (z4 : Int) (r0 : List (List D)) (x1 x2 : Int) (r3 : List (List D)) (x4 x5 x6 : Int) (s7 :
  ByteArray) (x8 x9 x10 x11 : Int) (s12 : ByteArray) (r13 : List (List D)) (x14 x15 : Int) : q24_3 Γ n1 n2 z3 z4 r0 x1 x2 r3 x4 x5 x6 s7 x8 x9 x10 x11 s12 r13
  x14 x15 = bif decide (0 ≤ x2) && decide (x2 < Int.ofNat (List.length r0)) then r_n_L5I (Γ false 54 [V.one (X.ptr 0 0), V.one (X.d (List.getD (List.getD r0 (Int.toNat x2) []) 0 D.junk))]
  [([Lf.lst 5, Lf.int iK], [X.d (D.list 5 r3), X.d (D.int iK x4)])]) (fun w0_ i1_ => q24_4 Γ n1 n2 z3 z4 r0 x1 x2 w0_ i1_ x5 x6 s7 x8 x9 x10 x11 s12 r13 x14 x15) fun d2_ w3_
  i4_ => some (Out.mk false V.junk d2_ [[X.d (D.list 5 w3_), X.d (D.int iK i4_)]] 0) else none := (Jn_step ..).trans (by kernel_rfl)
theorem q24_5_eq (Γ : Bool → SemL) (n1 : Nat) (z2 : List (List D)) (z3 : Int) (r0 : List (List D)) (x1 x2 x3 : Int) (s4 : ByteArray) (x5 x6 x7 x8 : Int) (s9 : ByteArray) (r10 : List (List D)) (x11 x12 : Int) : q24_5 Γ n1 z2 z3 r0 x1 x2 x3 s4 x5 x6 x7 x8 s9 r10 x11 x12 = r_a8IISL1L1L8II_L5I (Γ false 24 [V.one (X.ptr 0 0)]
  [([Lf.lst 5, Lf.int iK], [X.d (D.list 5 r0), X.d (D.int iK x1)])]) (fun i0_ i1_ u2_ w3_ w4_ w5_ i6_ i7_ w8_ i9_ => bif true && true && true && Nat.ble ((List.length r10 +
  List.length [[D.int iK i0_, D.int iK i1_, D.str u2_, D.list 1 w3_, D.list 1 w4_, D.list 8 w5_, D.int iK i6_, D.int iK i7_]]) * 121) 140737488355328 then
  r_n_L5I (Γ false 54 [V.one (X.ptr 0 0), V.one (X.d (D.str (ByteArray.mk #[124])))] [([Lf.lst 5, Lf.int iK], [X.d (D.list 5 w8_), X.d (D.int iK i9_)])]) (fun w13_ i14_ =>
  r_a5ISIII_L5I (Γ false 53 [V.one (X.ptr 0 0), V.one (X.d (D.int iK 1))] [([Lf.lst 5, Lf.int iK], [X.d (D.list 5 w13_), X.d (D.int iK i14_)])]) (fun i18_ u19_ i20_
  i21_ i22_ w23_ i24_ => r_n_L5I (Γ false 54 [V.one (X.ptr 0 0), V.one (X.d (D.str (ByteArray.mk #[58, 58])))] [([Lf.lst 5, Lf.int iK], [X.d (D.list 5 w23_), X.d (D.int iK
  i24_)])]) (fun w28_ i29_ => r_a5ISIII_L5I (Γ false 53 [V.one (X.ptr 0 0), V.one (X.d (D.int iK 1))] [([Lf.lst 5, Lf.int iK], [X.d (D.list 5 w28_), X.d (D.int iK
  i29_)])]) (fun i33_ u34_ i35_ i36_ i37_ w38_ i39_ => r_n_L5I (Γ false 54 [V.one (X.ptr 0 0), V.one (X.d (D.str (ByteArray.mk #[61, 62])))] [([Lf.lst 5, Lf.int iK], [X.d (D.list 5
  w38_), X.d (D.int iK i39_)])]) (fun w43_ i44_ => r_a8IISL1L1L8II_L5I (Γ false 24 [V.one (X.ptr 0 0)] [([Lf.lst 5, Lf.int iK], [X.d (D.list 5 w43_), X.d (D.int iK
  i44_)])]) (fun i48_ i49_ u50_ w51_ w52_ w53_ i54_ i55_ w56_ i57_ => bif true && true && true && Nat.ble ((List.length (r10 ++ [[D.int iK i0_, D.int iK i1_, D.str u2_,
  D.list 1 w3_, D.list 1 w4_, D.list 8 w5_, D.int iK i6_, D.int iK i7_]]) + List.length [[D.int iK i48_, D.int iK i49_, D.str u50_, D.list 1 w51_, D.list 1
  w52_, D.list 8 w53_, D.int iK i54_, D.int iK i55_]]) * 121) 140737488355328 then some (Out.mk true (V.agg [X.d (D.int iK x7), X.d (D.int iK x8), X.d
  (D.str s9), X.d (D.list 1 [[D.str u19_], [D.str u34_]]), X.d (D.list 1 []), X.d (D.list 8 (r10 ++ [[D.int iK i0_, D.int iK i1_, D.str u2_, D.list 1 w3_, D.list 1 w4_,
  D.list 8 w5_, D.int iK i6_, D.int iK i7_]] ++ [[D.int iK i48_, D.int iK i49_, D.str u50_, D.list 1 w51_, D.list 1 w52_, D.list 8 w53_, D.int iK
  i54_, D.int iK i55_]])), X.d (D.int iK x11), X.d (D.int iK x12)]) D.junk [[X.d (D.list 5 w56_), X.d (D.int iK i57_)]] 0) else none) fun d58_ w59_ i60_ =>
  some (Out.mk false V.junk d58_ [[X.d (D.list 5 w59_), X.d (D.int iK i60_)]] 0)) fun d45_ w46_ i47_ => some (Out.mk false V.junk d45_ [[X.d (D.list 5 w46_), X.d (D.int iK
  i47_)]] 0)) fun d40_ w41_ i42_ => some (Out.mk false V.junk d40_ [[X.d (D.list 5 w41_), X.d (D.int iK i42_)]] 0)) fun d30_ w31_ i32_ => some (Out.mk false V.junk d30_ [[X.d (D.list
  5 w31_), X.d (D.int iK i32_)]] 0)) fun d25_ w26_ i27_ => some (Out.mk false V.junk d25_ [[X.d (D.list 5 w26_), X.d (D.int iK i27_)]] 0)) fun d15_ w16_ i17_ => some (Out.mk
  false V.junk d15_ [[X.d (D.list 5 w16_), X.d (D.int iK i17_)]] 0) else none) fun d10_ w11_ i12_ => some (Out.mk false V.junk d10_ [[X.d (D.list 5 w11_), X.d (D.int iK
  i12_)]] 0) := (Jn_step ..).trans (by kernel_rfl)
theorem e56_eq (Γ : Bool → SemL) (n1 : Nat) (x0 : Int) (r1 : List (List D)) (x2 : Int) : e56 Γ n1 x0 r1 x2 = bif x0 == 6 then r_a8IISL1L1L8II_L5I (Γ false 81 [V.one (X.ptr 0 0)] [([Lf.lst 5,
  Lf.int iK], [X.d (D.list 5 r1), X.d (D.int iK x2)])]) (fun i0_ i1_ u2_ w3_ w4_ w5_ i6_ i7_ w8_ i9_ => some (Out.mk true (V.agg [X.d (D.int iK i0_), X.d (D.int
  iK i1_), X.d (D.str u2_), X.d (D.list 1 w3_), X.d (D.list 1 w4_), X.d (D.list 8 w5_), X.d (D.int iK i6_), X.d (D.int iK i7_)]) D.junk [[X.d (D.list 5 w8_), X.d
  (D.int iK i9_)]] 0)) fun d10_ w11_ i12_ => some (Out.mk false V.junk d10_ [[X.d (D.list 5 w11_), X.d (D.int iK i12_)]] 0) else q56_0 Γ n1 r1 x2 x0 r1 x2 0 0 (ByteArray.mk
  #[]) 0 0 := (run_step ..).trans (by kernel_rfl)
theorem q57_2_eq (Γ : Bool → SemL) (n1 : Nat) (n2 : Nat) (x0 : Int) (r1 : List (List D)) (x2 x3 x4 x5 : Int) (s6 : ByteArray) (x7 x8 : Int) : q57_2 Γ n1 n2 x0
  r1 x2 x3 x4 x5 s6 x7 x8 = l57_0 n1 Γ n2 x0 r1 x2 (IntKind.wrap iK (x3 + 1)) x4 x5 s6 x7 x8 := (Jn_step ..).trans (by kernel_rfl)
theorem q24_4_eq (Γ : Bool → SemL) (n1 : Nat) (n2 : Nat) (z3 : List (List D)) (z4 : Int) (r0 : List (List D)) (x1 x2 : Int) (r3 : List (List D)) (x4 x5 x6 : Int) (s7 :
  ByteArray) (x8 x9 x10 x11 : Int) (s12 : ByteArray) (r13 : List (List D)) (x14 x15 : Int) : q24_4 Γ n1 n2 z3 z4 r0 x1 x2 r3 x4 x5 x6 s7 x8 x9 x10 x11 s12 r13
  x14 x15 = l24_1 n1 Γ n2 z3 z4 r0 x1 (IntKind.wrap iK (x2 + 1)) r3 x4 x5 x6 s7 x8 x9 x10 x11 s12 r13 x14 x15 := (Jn_step ..).trans (by kernel_rfl)
theorem q56_0_eq (Γ : Bool → SemL) (n1 : Nat) (z2 : List (List D)) (z3 x0 : Int) (r1 : List (List D)) (x2 x3 x4 : Int) (s5 : ByteArray) (x6 x7 : Int) : q56_0 Γ
  n1 z2 z3 x0 r1 x2 x3 x4 s5 x6 x7 = r_a8IISL1L1L8II_L5I (Γ false 56 [V.one (X.ptr 0 0), V.one (X.d (D.int iK (IntKind.wrap iK (x0 + 1))))] [([Lf.lst 5, Lf.int iK],
  [X.d (D.list 5 r1), X.d (D.int iK x2)])]) (fun i0_ i1_ u2_ w3_ w4_ w5_ i6_ i7_ w8_ i9_ => l56_0 n1 Γ z2 z3 x0 w8_ i9_ x3 x4 s5 x6 x7 i0_ i1_ u2_ w3_ w4_ w5_ i6_ i7_) fun d10_ w11_
  i12_ => some (Out.mk false V.junk d10_ [[X.d (D.list 5 w11_), X.d (D.int iK i12_)]] 0) := (Jn_step ..).trans (by kernel_rfl)
theorem e94_eq (Γ : Bool → SemL) (n1 : Nat) (r0 : List (List D)) (x1 : Int) : e94 Γ n1 r0 x1 = r_a5ISIII_L5I (Γ false 49 [V.one (X.ptr 0 0)] [([Lf.lst 5, Lf.int iK], [X.d (D.list 5
  r0), X.d (D.int iK x1)])]) (fun i0_ u1_ i2_ i3_ i4_ w5_ i6_ => bif i0_ == 3 then r_a8IISN1N1N8II (Γ false 52 [V.one (X.d (D.int iK 1)), V.agg [X.d (D.int iK i0_),
  X.d (D.str u1_), X.d (D.int iK i2_), X.d (D.int iK i3_), X.d (D.int iK i4_)]] []) (fun i10_ i11_ u12_ i13_ i14_ => some (Out.mk true (V.agg [X.d (D.int
  iK i10_), X.d (D.int iK i2_), X.d (D.str u12_), X.d (D.list 1 []), X.d (D.list 1 []), X.d (D.list 8 []), X.d (D.int iK i13_), X.d (D.int iK i14_)])
  D.junk [[X.d (D.list 5 w5_), X.d (D.int iK (IntKind.wrap iK (i6_ + 1)))]] 0)) fun d15_ => some (Out.mk false V.junk d15_ [[X.d (D.list 5 w5_), X.d (D.int iK
  (IntKind.wrap iK (i6_ + 1)))]] 0) else bif i0_ == 1 then r_a8IISN1N1N8II (Γ false 52 [V.one (X.d (D.int iK 3)), V.agg [X.d (D.int iK i0_), X.d (D.str u1_), X.d
  (D.int iK i2_), X.d (D.int iK i3_), X.d (D.int iK i4_)]] []) (fun i16_ i17_ u18_ i19_ i20_ => r_oB_L5I (Γ false 51 [V.one (X.ptr 0 0), V.one (X.d (D.str
  (ByteArray.mk #[40])))] [([Lf.lst 5, Lf.int iK], [X.d (D.list 5 w5_), X.d (D.int iK (IntKind.wrap iK (i6_ + 1)))])]) (fun c22_ w23_ i24_ => bif c22_ then
  r_oL8_L5I (Γ false 101 [V.one (X.ptr 0 0), V.one (X.d (D.str (ByteArray.mk #[41])))] [([Lf.lst 5, Lf.int iK], [X.d (D.list 5 w23_), X.d (D.int iK i24_)])]) (fun w28_ w29_
  i30_ => q94_0 Γ n1 r0 x1 w29_ i30_ 0 0 (ByteArray.mk #[]) 0 0 4 i17_ u1_ w28_ i19_ i20_) fun d31_ w32_ i33_ => some (Out.mk false V.junk d31_ [[X.d (D.list 5 w32_), X.d (D.int iK
  i33_)]] 0) else q94_0_v1 Γ n1 r0 x1 w23_ i24_ 0 0 (ByteArray.mk #[]) 0 0 i16_ i17_ u1_ i19_ i20_) fun d25_ w26_ i27_ => some (Out.mk false V.junk d25_ [[X.d (D.list 5 w26_), X.d (D.int
  iK i27_)]] 0)) fun d21_ => some (Out.mk false V.junk d21_ [[X.d (D.list 5 w5_), X.d (D.int iK (IntKind.wrap iK (i6_ + 1)))]] 0) else r_oB_L5I (Γ false 51 [V.one
  (X.ptr 0 0), V.one (X.d (D.str (ByteArray.mk #[116, 114, 117, 101])))] [([Lf.lst 5, Lf.int iK], [X.d (D.list 5 w5_), X.d (D.int iK i6_)])]) (fun c34_ w35_ i36_ => bif c34_
  then r_a8IISN1N1N8II (Γ false 52 [V.one (X.d (D.int iK 2)), V.agg [X.d (D.int iK i0_), X.d (D.str u1_), X.d (D.int iK i2_), X.d (D.int iK i3_), X.d
  (D.int iK i4_)]] []) (fun i40_ i41_ u42_ i43_ i44_ => some (Out.mk true (V.agg [X.d (D.int iK i40_), X.d (D.int iK 1), X.d (D.str u42_), X.d (D.list 1 []), X.d
  (D.list 1 []), X.d (D.list 8 []), X.d (D.int iK i43_), X.d (D.int iK i44_)]) D.junk [[X.d (D.list 5 w35_), X.d (D.int iK i36_)]] 0)) fun d45_ => some (Out.mk
  false V.junk d45_ [[X.d (D.list 5 w35_), X.d (D.int iK i36_)]] 0) else r_oB_L5I (Γ false 51 [V.one (X.ptr 0 0), V.one (X.d (D.str (ByteArray.mk #[102, 97, 108, 115, 101])))]
  [([Lf.lst 5, Lf.int iK], [X.d (D.list 5 w35_), X.d (D.int iK i36_)])]) (fun c46_ w47_ i48_ => bif c46_ then r_a8IISN1N1N8II (Γ false 52 [V.one (X.d (D.int iK 2)),
  V.agg [X.d (D.int iK i0_), X.d (D.str u1_), X.d (D.int iK i2_), X.d (D.int iK i3_), X.d (D.int iK i4_)]] []) (fun i52_ i53_ u54_ i55_ i56_ => some
  (Out.mk true (V.agg [X.d (D.int iK i52_), X.d (D.int iK i53_), X.d (D.str u54_), X.d (D.list 1 []), X.d (D.list 1 []), X.d (D.list 8 []), X.d (D.int iK i55_), X.d
  (D.int iK i56_)]) D.junk [[X.d (D.list 5 w47_), X.d (D.int iK i48_)]] 0)) fun d57_ => some (Out.mk false V.junk d57_ [[X.d (D.list 5 w47_), X.d (D.int iK i48_)]]
  0) else r_oB_L5I (Γ false 51 [V.one (X.ptr 0 0), V.one (X.d (D.str (ByteArray.mk #[40])))] [([Lf.lst 5, Lf.int iK], [X.d (D.list 5 w47_), X.d (D.int iK i48_)])]) (fun c58_
  w59_ i60_ => bif c58_ then r_a8IISL1L1L8II_L5I (Γ false 24 [V.one (X.ptr 0 0)] [([Lf.lst 5, Lf.int iK], [X.d (D.list 5 w59_), X.d (D.int iK i60_)])]) (fun i64_ i65_ u66_
  w67_ w68_ w69_ i70_ i71_ w72_ i73_ => r_oB_L5I (Γ false 51 [V.one (X.ptr 0 0), V.one (X.d (D.str (ByteArray.mk #[41])))] [([Lf.lst 5, Lf.int iK], [X.d (D.list 5 w72_), X.d (D.int
  iK i73_)])]) (fun c77_ w78_ i79_ => bif c77_ then some (Out.mk true (V.agg [X.d (D.int iK i64_), X.d (D.int iK i65_), X.d (D.str u66_), X.d (D.list 1 w67_), X.d
  (D.list 1 w68_), X.d (D.list 8 w69_), X.d (D.int iK i70_), X.d (D.int iK i71_)]) D.junk [[X.d (D.list 5 w78_), X.d (D.int iK i79_)]] 0) else q94_1 Γ n1 r0 x1 w78_
  i79_ 0 0 (ByteArray.mk #[]) 0 0 i0_ u1_ i2_ i3_ i4_ i64_ i65_ u66_ w67_ w68_ w69_ i70_ i71_) fun d80_ w81_ i82_ => some (Out.mk false V.junk d80_ [[X.d (D.list 5 w81_), X.d (D.int
  iK i82_)]] 0)) fun d74_ w75_ i76_ => some (Out.mk false V.junk d74_ [[X.d (D.list 5 w75_), X.d (D.int iK i76_)]] 0) else r_oB_L5I (Γ false 51 [V.one (X.ptr 0 0), V.one
  (X.d (D.str (ByteArray.mk #[91])))] [([Lf.lst 5, Lf.int iK], [X.d (D.list 5 w59_), X.d (D.int iK i60_)])]) (fun c83_ w84_ i85_ => bif c83_ then r_a8IISN1N1N8II (Γ false 52
  [V.one (X.d (D.int iK 6)), V.agg [X.d (D.int iK i0_), X.d (D.str u1_), X.d (D.int iK i2_), X.d (D.int iK i3_), X.d (D.int iK i4_)]] []) (fun
  i89_ i90_ u91_ i92_ i93_ => r_oL8_L5I (Γ false 101 [V.one (X.ptr 0 0), V.one (X.d (D.str (ByteArray.mk #[93])))] [([Lf.lst 5, Lf.int iK], [X.d (D.list 5 w84_), X.d (D.int
  iK i85_)])]) (fun w95_ w96_ i97_ => some (Out.mk true (V.agg [X.d (D.int iK i89_), X.d (D.int iK i90_), X.d (D.str u91_), X.d (D.list 1 []), X.d (D.list 1 []),
  X.d (D.list 8 w95_), X.d (D.int iK i92_), X.d (D.int iK i93_)]) D.junk [[X.d (D.list 5 w96_), X.d (D.int iK i97_)]] 0)) fun d98_ w99_ i100_ => some (Out.mk false
  V.junk d98_ [[X.d (D.list 5 w99_), X.d (D.int iK i100_)]] 0)) fun d94_ => some (Out.mk false V.junk d94_ [[X.d (D.list 5 w84_), X.d (D.int iK i85_)]] 0) else r_oB_L5I (Γ
  false 51 [V.one (X.ptr 0 0), V.one (X.d (D.str (ByteArray.mk #[112, 105, 99, 107])))] [([Lf.lst 5, Lf.int iK], [X.d (D.list 5 w84_), X.d (D.int iK i85_)])]) (fun c101_
  w102_ i103_ => bif c101_ then r_a8IISN1N1N8II (Γ false 52 [V.one (X.d (D.int iK 13)), V.agg [X.d (D.int iK i0_), X.d (D.str u1_), X.d (D.int iK i2_), X.d (D.int
  iK i3_), X.d (D.int iK i4_)]] []) (fun i107_ i108_ u109_ i110_ i111_ => r_n_L5I (Γ false 54 [V.one (X.ptr 0 0), V.one (X.d (D.str (ByteArray.mk #[123])))] [([Lf.lst 5,
  Lf.int iK], [X.d (D.list 5 w102_), X.d (D.int iK i103_)])]) (fun w113_ i114_ => l94_1 n1 Γ n1 r0 x1 w113_ i114_ 0 0 (ByteArray.mk #[]) 0 0 i107_ i108_ u109_ i110_ i111_)
  fun d115_ w116_ i117_ => some (Out.mk false V.junk d115_ [[X.d (D.list 5 w116_), X.d (D.int iK i117_)]] 0)) fun d112_ => some (Out.mk false V.junk d112_ [[X.d (D.list 5 w102_), X.d
  (D.int iK i103_)]] 0) else r_oB_L5I (Γ false 51 [V.one (X.ptr 0 0), V.one (X.d (D.str (ByteArray.mk #[102, 108, 105, 112])))] [([Lf.lst 5, Lf.int iK], [X.d (D.list 5
  w102_), X.d (D.int iK i103_)])]) (fun c118_ w119_ i120_ => bif c118_ then r_a8IISN1N1N8II (Γ false 52 [V.one (X.d (D.int iK 14)), V.agg [X.d (D.int iK i0_), X.d
  (D.str u1_), X.d (D.int iK i2_), X.d (D.int iK i3_), X.d (D.int iK i4_)]] []) (fun i124_ i125_ u126_ i127_ i128_ => r_n_L5I (Γ false 54 [V.one (X.ptr 0 0), V.one
  (X.d (D.str (ByteArray.mk #[40])))] [([Lf.lst 5, Lf.int iK], [X.d (D.list 5 w119_), X.d (D.int iK i120_)])]) (fun w130_ i131_ => r_oL1_L5I (Γ false 55 [V.one (X.ptr 0 0)]
  [([Lf.lst 5, Lf.int iK], [X.d (D.list 5 w130_), X.d (D.int iK i131_)])]) (fun w135_ w136_ i137_ => r_n_L5I (Γ false 54 [V.one (X.ptr 0 0), V.one (X.d (D.str (ByteArray.mk
  #[41])))] [([Lf.lst 5, Lf.int iK], [X.d (D.list 5 w136_), X.d (D.int iK i137_)])]) (fun w141_ i142_ => some (Out.mk true (V.agg [X.d (D.int iK i124_), X.d (D.int
  iK i125_), X.d (D.str u126_), X.d (D.list 1 []), X.d (D.list 1 w135_), X.d (D.list 8 []), X.d (D.int iK i127_), X.d (D.int iK i128_)]) D.junk [[X.d (D.list 5
  w141_), X.d (D.int iK i142_)]] 0)) fun d143_ w144_ i145_ => some (Out.mk false V.junk d143_ [[X.d (D.list 5 w144_), X.d (D.int iK i145_)]] 0)) fun d138_ w139_ i140_ =>
  some (Out.mk false V.junk d138_ [[X.d (D.list 5 w139_), X.d (D.int iK i140_)]] 0)) fun d132_ w133_ i134_ => some (Out.mk false V.junk d132_ [[X.d (D.list 5 w133_), X.d (D.int
  iK i134_)]] 0)) fun d129_ => some (Out.mk false V.junk d129_ [[X.d (D.list 5 w119_), X.d (D.int iK i120_)]] 0) else r_oB_L5I (Γ false 51 [V.one (X.ptr 0 0), V.one (X.d
  (D.str (ByteArray.mk #[114, 97, 110, 103, 101])))] [([Lf.lst 5, Lf.int iK], [X.d (D.list 5 w119_), X.d (D.int iK i120_)])]) (fun c146_ w147_ i148_ => bif c146_ then
  r_a8IISN1N1N8II (Γ false 52 [V.one (X.d (D.int iK 15)), V.agg [X.d (D.int iK i0_), X.d (D.str u1_), X.d (D.int iK i2_), X.d (D.int iK i3_), X.d (D.int
  iK i4_)]] []) (fun i152_ i153_ u154_ i155_ i156_ => r_n_L5I (Γ false 54 [V.one (X.ptr 0 0), V.one (X.d (D.str (ByteArray.mk #[40])))] [([Lf.lst 5, Lf.int iK], [X.d (D.list
  5 w147_), X.d (D.int iK i148_)])]) (fun w158_ i159_ => r_oI_L5I (Γ false 102 [V.one (X.ptr 0 0)] [([Lf.lst 5, Lf.int iK], [X.d (D.list 5 w158_), X.d (D.int iK
  i159_)])]) (fun i163_ w164_ i165_ => r_n_L5I (Γ false 54 [V.one (X.ptr 0 0), V.one (X.d (D.str (ByteArray.mk #[44])))] [([Lf.lst 5, Lf.int iK], [X.d (D.list 5 w164_), X.d (D.int
  iK i165_)])]) (fun w169_ i170_ => r_oI_L5I (Γ false 102 [V.one (X.ptr 0 0)] [([Lf.lst 5, Lf.int iK], [X.d (D.list 5 w169_), X.d (D.int iK i170_)])]) (fun i174_
  w175_ i176_ => r_n_L5I (Γ false 54 [V.one (X.ptr 0 0), V.one (X.d (D.str (ByteArray.mk #[41])))] [([Lf.lst 5, Lf.int iK], [X.d (D.list 5 w175_), X.d (D.int iK i176_)])])
  (fun w180_ i181_ => some (Out.mk true (V.agg [X.d (D.int iK i152_), X.d (D.int iK i153_), X.d (D.str u154_), X.d (D.list 1 []), X.d (D.list 1 [[D.int iK i163_],
  [D.int iK i174_]]), X.d (D.list 8 []), X.d (D.int iK i155_), X.d (D.int iK i156_)]) D.junk [[X.d (D.list 5 w180_), X.d (D.int iK i181_)]] 0)) fun d182_
  w183_ i184_ => some (Out.mk false V.junk d182_ [[X.d (D.list 5 w183_), X.d (D.int iK i184_)]] 0)) fun d177_ w178_ i179_ => some (Out.mk false V.junk d177_ [[X.d (D.list 5 w178_),
  X.d (D.int iK i179_)]] 0)) fun d171_ w172_ i173_ => some (Out.mk false V.junk d171_ [[X.d (D.list 5 w172_), X.d (D.int iK i173_)]] 0)) fun d166_ w167_ i168_ => some
  (Out.mk false V.junk d166_ [[X.d (D.list 5 w167_), X.d (D.int iK i168_)]] 0)) fun d160_ w161_ i162_ => some (Out.mk false V.junk d160_ [[X.d (D.list 5 w161_), X.d (D.int
  iK i162_)]] 0)) fun d157_ => some (Out.mk false V.junk d157_ [[X.d (D.list 5 w147_), X.d (D.int iK i148_)]] 0) else q94_4 Γ n1 r0 x1 w147_ i148_ 0 0 (ByteArray.mk #[]) 0
  0) fun d149_ w150_ i151_ => some (Out.mk false V.junk d149_ [[X.d (D.list 5 w150_), X.d (D.int iK i151_)]] 0)) fun d121_ w122_ i123_ => some (Out.mk false V.junk d121_ [[X.d
  (D.list 5 w122_), X.d (D.int iK i123_)]] 0)) fun d104_ w105_ i106_ => some (Out.mk false V.junk d104_ [[X.d (D.list 5 w105_), X.d (D.int iK i106_)]] 0)) fun d86_ w87_ i88_
  => some (Out.mk false V.junk d86_ [[X.d (D.list 5 w87_), X.d (D.int iK i88_)]] 0)) fun d61_ w62_ i63_ => some (Out.mk false V.junk d61_ [[X.d (D.list 5 w62_), X.d (D.int
  iK i63_)]] 0)) fun d49_ w50_ i51_ => some (Out.mk false V.junk d49_ [[X.d (D.list 5 w50_), X.d (D.int iK i51_)]] 0)) fun d37_ w38_ i39_ => some (Out.mk false V.junk d37_
  [[X.d (D.list 5 w38_), X.d (D.int iK i39_)]] 0)) fun d7_ w8_ i9_ => some (Out.mk false V.junk d7_ [[X.d (D.list 5 w8_), X.d (D.int iK i9_)]] 0) := (run_step ..).trans (by
  kernel_rfl)
theorem l56_0_eq (n0 : Nat) (Γ : Bool → SemL) (z2 : List (List D)) (z3 x0 : Int) (r1 : List (List D)) (x2 x3 x4 : Int) (s5 : ByteArray) (x6 x7 x8 x9 : Int) (s10 : ByteArray) (r11 r12 r13 : List (List D)) (x14 x15 : Int) : l56_0 (n0 + 1) Γ z2 z3 x0 r1 x2 x3 x4 s5 x6 x7 x8 x9 s10 r11
  r12 r13 x14 x15 = r_a5ISIII_L5I (Γ false 49 [V.one (X.ptr 0 0)] [([Lf.lst 5, Lf.int iK], [X.d (D.list 5 r1), X.d (D.int iK x2)])]) (fun i0_ u1_ i2_ i3_ i4_ w5_ i6_ =>
  r_oS_L5I (Γ false 82 [V.one (X.ptr 0 0), V.one (X.d (D.int iK x0))] [([Lf.lst 5, Lf.int iK], [X.d (D.list 5 w5_), X.d (D.int iK i6_)])]) (fun u10_ w11_ i12_ =>
  bif beqL (Array.toList (ByteArray.data u10_)) (Array.toList (ByteArray.data (ByteArray.mk #[]))) then some (Out.mk true (V.agg [X.d (D.int iK x8), X.d (D.int iK x9), X.d
  (D.str s10), X.d (D.list 1 r11), X.d (D.list 1 r12), X.d (D.list 8 r13), X.d (D.int iK x14), X.d (D.int iK x15)]) D.junk [[X.d (D.list 5 w11_), X.d (D.int iK
  i12_)]] 0) else q56_1 Γ n0 z2 z3 x0 u10_ w11_ i12_ x3 x4 s5 x6 x7 x8 x9 s10 r11 r12 r13 x14 x15 i0_ u1_ i2_ i3_ i4_) fun d13_ w14_ i15_ => some (Out.mk false V.junk d13_ [[X.d (D.list 5
  w14_), X.d (D.int iK i15_)]] 0)) fun d7_ w8_ i9_ => some (Out.mk false V.junk d7_ [[X.d (D.list 5 w8_), X.d (D.int iK i9_)]] 0) := (loop_step ..).trans (by kernel_rfl)
theorem e101_eq (Γ : Bool → SemL) (n1 : Nat) (s0 : ByteArray) (r1 : List (List D)) (x2 : Int) : e101 Γ n1 s0 r1 x2 = r_oB_L5I (Γ false 51 [V.one (X.ptr 0 0), V.one (X.d (D.str s0))] [([Lf.lst
  5, Lf.int iK], [X.d (D.list 5 r1), X.d (D.int iK x2)])]) (fun c0_ w1_ i2_ => bif c0_ then some (Out.mk true (V.one (X.d (D.list 8 []))) D.junk [[X.d (D.list 5 w1_), X.d
  (D.int iK i2_)]] 0) else q101_0 Γ n1 r1 x2 s0 w1_ i2_) fun d3_ w4_ i5_ => some (Out.mk false V.junk d3_ [[X.d (D.list 5 w4_), X.d (D.int iK i5_)]] 0) := (run_step
  ..).trans (by kernel_rfl)
theorem q94_0_eq (Γ : Bool → SemL) (n1 : Nat) (z2 : List (List D)) (z3 : Int) (r0 : List (List D)) (x1 x2 x3 : Int) (s4 : ByteArray) (x5 x6 x7 x8 : Int) (s9 : ByteArray) (r10 : List (List D)) (x11 x12 : Int) : q94_0 Γ n1 z2 z3 r0 x1 x2 x3 s4 x5 x6 x7 x8 s9 r10 x11 x12 = some (Out.mk true (V.agg [X.d (D.int iK x7), X.d
  (D.int iK x8), X.d (D.str s9), X.d (D.list 1 []), X.d (D.list 1 []), X.d (D.list 8 r10), X.d (D.int iK x11), X.d (D.int iK x12)]) D.junk [[X.d (D.list 5 r0), X.d
  (D.int iK x1)]] 0) := (Jn_step ..).trans (by kernel_rfl)
theorem q94_0_v1_eq (Γ : Bool → SemL) (n1 : Nat) (z2 : List (List D)) (z3 : Int) (r0 : List (List D)) (x1 x2 x3 : Int) (s4 : ByteArray) (x5 x6 x7 x8 : Int) (s9 : ByteArray) (x10 x11 : Int) : q94_0_v1 Γ n1 z2 z3 r0 x1 x2 x3 s4 x5 x6 x7 x8 s9 x10 x11 = some (Out.mk true (V.agg [X.d (D.int iK x7), X.d (D.int iK x8),
  X.d (D.str s9), X.d (D.list 1 []), X.d (D.list 1 []), X.d (D.list 8 []), X.d (D.int iK x10), X.d (D.int iK x11)]) D.junk [[X.d (D.list 5 r0), X.d (D.int iK x1)]]
  0) := (Jn_step ..).trans (by kernel_rfl)
theorem q94_1_eq (Γ : Bool → SemL) (n1 : Nat) (z2 : List (List D)) (z3 : Int) (r0 : List (List D)) (x1 x2 x3 : Int) (s4 : ByteArray) (x5 x6 x7 : Int) (s8 :
  ByteArray) (x9 x10 x11 x12 x13 : Int) (s14 : ByteArray) (r15 r16 r17 : List (List D)) (x18 x19 : Int) : q94_1 Γ
  n1 z2 z3 r0 x1 x2 x3 s4 x5 x6 x7 s8 x9 x10 x11 x12 x13 s14 r15 r16 r17 x18 x19 = r_a8IISN1N1N8II (Γ false 52 [V.one (X.d (D.int iK 5)), V.agg [X.d (D.int iK x7), X.d
  (D.str s8), X.d (D.int iK x9), X.d (D.int iK x10), X.d (D.int iK x11)]] []) (fun i0_ i1_ u2_ i3_ i4_ => r_n_L5I (Γ false 54 [V.one (X.ptr 0 0), V.one (X.d (D.str
  (ByteArray.mk #[44])))] [([Lf.lst 5, Lf.int iK], [X.d (D.list 5 r0), X.d (D.int iK x1)])]) (fun w6_ i7_ => r_a8IISL1L1L8II_L5I (Γ false 24 [V.one (X.ptr 0 0)] [([Lf.lst 5,
  Lf.int iK], [X.d (D.list 5 w6_), X.d (D.int iK i7_)])]) (fun i11_ i12_ u13_ w14_ w15_ w16_ i17_ i18_ w19_ i20_ => l94_0 n1 Γ n1 z2 z3 w19_ i20_ x2 x3 s4 x5 x6 i0_ i1_ u2_
  [[D.int iK x12, D.int iK x13, D.str s14, D.list 1 r15, D.list 1 r16, D.list 8 r17, D.int iK x18, D.int iK x19], [D.int iK i11_, D.int
  iK i12_, D.str u13_, D.list 1 w14_, D.list 1 w15_, D.list 8 w16_, D.int iK i17_, D.int iK i18_]] i3_ i4_) fun d21_ w22_ i23_ => some (Out.mk false V.junk d21_
  [[X.d (D.list 5 w22_), X.d (D.int iK i23_)]] 0)) fun d8_ w9_ i10_ => some (Out.mk false V.junk d8_ [[X.d (D.list 5 w9_), X.d (D.int iK i10_)]] 0)) fun d5_ => some (Out.mk
  false V.junk d5_ [[X.d (D.list 5 r0), X.d (D.int iK x1)]] 0) := (Jn_step ..).trans (by kernel_rfl)
theorem l94_1_eq (n0 : Nat) (Γ : Bool → SemL) (n2 : Nat) (z3 : List (List D)) (z4 : Int) (r0 : List (List D)) (x1 x2 x3 : Int) (s4 : ByteArray) (x5 x6 x7 x8 : Int) (s9 : ByteArray) (x10 x11 : Int) : l94_1 (n0 + 1) Γ n2 z3 z4 r0 x1 x2 x3 s4 x5 x6 x7 x8 s9 x10 x11 = r_a5ISIII_L5I (Γ false 53 [V.one (X.ptr 0 0), V.one (X.d (D.int
  iK 3))] [([Lf.lst 5, Lf.int iK], [X.d (D.list 5 r0), X.d (D.int iK x1)])]) (fun i0_ u1_ i2_ i3_ i4_ w5_ i6_ => r_n_L5I (Γ false 54 [V.one (X.ptr 0 0), V.one (X.d
  (D.str (ByteArray.mk #[58])))] [([Lf.lst 5, Lf.int iK], [X.d (D.list 5 w5_), X.d (D.int iK i6_)])]) (fun w10_ i11_ => r_a8IISL1L1L8II_L5I (Γ false 24 [V.one (X.ptr 0 0)]
  [([Lf.lst 5, Lf.int iK], [X.d (D.list 5 w10_), X.d (D.int iK i11_)])]) (fun i15_ i16_ u17_ w18_ w19_ w20_ i21_ i22_ w23_ i24_ => r_oB_L5I (Γ false 51 [V.one (X.ptr 0 0),
  V.one (X.d (D.str (ByteArray.mk #[44])))] [([Lf.lst 5, Lf.int iK], [X.d (D.list 5 w23_), X.d (D.int iK i24_)])]) (fun c28_ w29_ i30_ => bif !c28_ then r_n_L5I (Γ false 54
  [V.one (X.ptr 0 0), V.one (X.d (D.str (ByteArray.mk #[125])))] [([Lf.lst 5, Lf.int iK], [X.d (D.list 5 w29_), X.d (D.int iK i30_)])]) (fun w34_ i35_ => some (Out.mk true
  (V.agg [X.d (D.int iK x7), X.d (D.int iK x8), X.d (D.str s9), X.d (D.list 1 []), X.d (D.list 1 [[D.int iK i2_]]), X.d (D.list 8 [[D.int iK i15_, D.int
  iK i16_, D.str u17_, D.list 1 w18_, D.list 1 w19_, D.list 8 w20_, D.int iK i21_, D.int iK i22_]]), X.d (D.int iK x10), X.d (D.int iK x11)])
  D.junk [[X.d (D.list 5 w34_), X.d (D.int iK i35_)]] 0)) fun d36_ w37_ i38_ => some (Out.mk false V.junk d36_ [[X.d (D.list 5 w37_), X.d (D.int iK i38_)]] 0) else l94_1_v1
  n0 Γ n2 z3 z4 w29_ i30_ x2 x3 s4 x5 x6 x7 x8 s9 [[D.int iK i2_]] [[D.int iK i15_, D.int iK i16_, D.str u17_, D.list 1 w18_, D.list 1 w19_, D.list 8 w20_, D.int
  iK i21_, D.int iK i22_]] x10 x11) fun d31_ w32_ i33_ => some (Out.mk false V.junk d31_ [[X.d (D.list 5 w32_), X.d (D.int iK i33_)]] 0)) fun d25_ w26_ i27_ => some
  (Out.mk false V.junk d25_ [[X.d (D.list 5 w26_), X.d (D.int iK i27_)]] 0)) fun d12_ w13_ i14_ => some (Out.mk false V.junk d12_ [[X.d (D.list 5 w13_), X.d (D.int iK
  i14_)]] 0)) fun d7_ w8_ i9_ => some (Out.mk false V.junk d7_ [[X.d (D.list 5 w8_), X.d (D.int iK i9_)]] 0) := (loop_step ..).trans (by kernel_rfl)
theorem q94_4_eq (Γ : Bool → SemL) (n1 : Nat) (z2 : List (List D)) (z3 : Int) (r0 : List (List D)) (x1 x2 x3 : Int) (s4 : ByteArray) (x5 x6 : Int) : q94_4 Γ n1 z2 z3
  r0 x1 x2 x3 s4 x5 x6 = r_n_L5I (Γ false 50 [V.one (X.ptr 0 0)] [([Lf.lst 5, Lf.int iK], [X.d (D.list 5 r0), X.d (D.int iK x1)])]) (fun w0_ i1_ => some (Out.mk true (V.agg
  [X.d (D.int iK 0), X.d (D.int iK 0), X.d (D.str (ByteArray.mk #[])), X.d (D.list 1 []), X.d (D.list 1 []), X.d (D.list 8 []), X.d (D.int iK 0), X.d (D.int
  iK 0)]) D.junk [[X.d (D.list 5 w0_), X.d (D.int iK i1_)]] 0)) fun d2_ w3_ i4_ => some (Out.mk false V.junk d2_ [[X.d (D.list 5 w3_), X.d (D.int iK i4_)]] 0) :=
  (Jn_step ..).trans (by kernel_rfl)
theorem q56_1_eq (Γ : Bool → SemL) (n1 : Nat) (z2 : List (List D)) (z3 x0 : Int) (s1 : ByteArray) (r2 : List (List D)) (x3 x4 x5 : Int) (s6 : ByteArray) (x7 x8 x9 x10 : Int) (s11 : ByteArray) (r12 r13 r14 : List (List D)) (x15 x16 x17 : Int) (s18 : ByteArray) (x19 x20 x21 : Int) : q56_1 Γ n1 z2 z3 x0 s1 r2 x3 x4 x5 s6 x7 x8 x9 x10 s11 r12 r13 r14 x15 x16 x17 s18 x19 x20 x21 = r_a8IISN1N1N8II (Γ false 52 [V.one (X.d (D.int iK 7)), V.agg
  [X.d (D.int iK x17), X.d (D.str s18), X.d (D.int iK x19), X.d (D.int iK x20), X.d (D.int iK x21)]] []) (fun i0_ i1_ u2_ i3_ i4_ => bif x0 == 3 then q56_2
  Γ n1 z2 z3 x0 3 r2 (IntKind.wrap iK (x3 + 1)) x4 x5 s6 x7 x8 x9 x10 s11 r12 r13 r14 x15 x16 i0_ i1_ s1 i3_ i4_ else q56_2 Γ n1 z2 z3 x0 (IntKind.wrap iK (x0 + 1)) r2
  (IntKind.wrap iK (x3 + 1)) x4 x5 s6 x7 x8 x9 x10 s11 r12 r13 r14 x15 x16 i0_ i1_ s1 i3_ i4_) fun d5_ => some (Out.mk false V.junk d5_ [[X.d (D.list 5 r2), X.d (D.int iK
  (IntKind.wrap iK (x3 + 1)))]] 0) := (Jn_step ..).trans (by kernel_rfl)
theorem q101_0_eq (Γ : Bool → SemL) (n1 : Nat) (z2 : List (List D)) (z3 : Int) (s0 : ByteArray) (r1 : List (List D)) (x2 : Int) : q101_0 Γ n1 z2 z3 s0 r1 x2 = r_a8IISL1L1L8II_L5I (Γ false 24
  [V.one (X.ptr 0 0)] [([Lf.lst 5, Lf.int iK], [X.d (D.list 5 r1), X.d (D.int iK x2)])]) (fun i0_ i1_ u2_ w3_ w4_ w5_ i6_ i7_ w8_ i9_ => l101_0 n1 Γ n1 z2 z3 s0 [[D.int
  iK i0_, D.int iK i1_, D.str u2_, D.list 1 w3_, D.list 1 w4_, D.list 8 w5_, D.int iK i6_, D.int iK i7_]] w8_ i9_) fun d10_ w11_ i12_ => some (Out.mk false
  V.junk d10_ [[X.d (D.list 5 w11_), X.d (D.int iK i12_)]] 0) := (Jn_step ..).trans (by kernel_rfl)
theorem l94_0_eq (n0 : Nat) (Γ : Bool → SemL) (n2 : Nat) (z3 : List (List D)) (z4 : Int) (r0 : List (List D)) (x1 x2 x3 : Int) (s4 : ByteArray) (x5 x6 x7 x8 : Int) (s9 : ByteArray) (r10 : List (List D)) (x11 x12 : Int) : l94_0 (n0 + 1) Γ n2 z3 z4 r0 x1 x2 x3 s4 x5 x6 x7 x8 s9 r10 x11 x12 = r_oB_L5I (Γ false 51 [V.one (X.ptr 0
  0), V.one (X.d (D.str (ByteArray.mk #[44])))] [([Lf.lst 5, Lf.int iK], [X.d (D.list 5 r0), X.d (D.int iK x1)])]) (fun c0_ w1_ i2_ => bif c0_ then q94_2 Γ n0 n2 z3 z4 w1_
  i2_ x2 x3 s4 x5 x6 x7 x8 s9 r10 x11 x12 else q94_3 Γ n2 z3 z4 w1_ i2_ x2 x3 s4 x5 x6 x7 x8 s9 r10 x11 x12) fun d3_ w4_ i5_ => some (Out.mk false V.junk d3_ [[X.d (D.list 5 w4_), X.d (D.int
  iK i5_)]] 0) := (loop_step ..).trans (by kernel_rfl)
theorem l94_1_v1_eq (n0 : Nat) (Γ : Bool → SemL) (n2 : Nat) (z3 : List (List D)) (z4 : Int) (r0 : List (List D)) (x1 x2 x3 : Int) (s4 : ByteArray) (x5 x6 x7 x8 : Int) (s9 : ByteArray) (r10 r11 : List (List D)) (x12 x13 : Int) : l94_1_v1 (n0 + 1) Γ n2 z3 z4 r0 x1 x2 x3 s4 x5 x6 x7 x8 s9 r10 r11 x12 x13 =
  r_a5ISIII_L5I (Γ false 53 [V.one (X.ptr 0 0), V.one (X.d (D.int iK 3))] [([Lf.lst 5, Lf.int iK], [X.d (D.list 5 r0), X.d (D.int iK x1)])]) (fun i0_ u1_ i2_ i3_
  i4_ w5_ i6_ => bif true && true && true && Nat.ble ((List.length r10 + List.length [[D.int iK i2_]]) * 9) 140737488355328 then r_n_L5I (Γ false 54 [V.one (X.ptr 0 0), V.one (X.d
  (D.str (ByteArray.mk #[58])))] [([Lf.lst 5, Lf.int iK], [X.d (D.list 5 w5_), X.d (D.int iK i6_)])]) (fun w10_ i11_ => r_a8IISL1L1L8II_L5I (Γ false 24 [V.one (X.ptr 0 0)]
  [([Lf.lst 5, Lf.int iK], [X.d (D.list 5 w10_), X.d (D.int iK i11_)])]) (fun i15_ i16_ u17_ w18_ w19_ w20_ i21_ i22_ w23_ i24_ => bif true && true && true && Nat.ble
  ((List.length r11 + List.length [[D.int iK i15_, D.int iK i16_, D.str u17_, D.list 1 w18_, D.list 1 w19_, D.list 8 w20_, D.int iK i21_, D.int iK i22_]])
  * 121) 140737488355328 then r_oB_L5I (Γ false 51 [V.one (X.ptr 0 0), V.one (X.d (D.str (ByteArray.mk #[44])))] [([Lf.lst 5, Lf.int iK], [X.d (D.list 5 w23_), X.d (D.int iK
  i24_)])]) (fun c28_ w29_ i30_ => bif !c28_ then r_n_L5I (Γ false 54 [V.one (X.ptr 0 0), V.one (X.d (D.str (ByteArray.mk #[125])))] [([Lf.lst 5, Lf.int iK], [X.d (D.list 5 w29_),
  X.d (D.int iK i30_)])]) (fun w34_ i35_ => some (Out.mk true (V.agg [X.d (D.int iK x7), X.d (D.int iK x8), X.d (D.str s9), X.d (D.list 1 []), X.d (D.list 1 (r10 ++
  [[D.int iK i2_]])), X.d (D.list 8 (r11 ++ [[D.int iK i15_, D.int iK i16_, D.str u17_, D.list 1 w18_, D.list 1 w19_, D.list 8 w20_, D.int iK i21_, D.int
  iK i22_]])), X.d (D.int iK x12), X.d (D.int iK x13)]) D.junk [[X.d (D.list 5 w34_), X.d (D.int iK i35_)]] 0)) fun d36_ w37_ i38_ => some (Out.mk false
  V.junk d36_ [[X.d (D.list 5 w37_), X.d (D.int iK i38_)]] 0) else l94_1_v1 n0 Γ n2 z3 z4 w29_ i30_ x2 x3 s4 x5 x6 x7 x8 s9 (r10 ++ [[D.int iK i2_]]) (r11 ++ [[D.int
  iK i15_, D.int iK i16_, D.str u17_, D.list 1 w18_, D.list 1 w19_, D.list 8 w20_, D.int iK i21_, D.int iK i22_]]) x12 x13) fun d31_ w32_ i33_ => some
  (Out.mk false V.junk d31_ [[X.d (D.list 5 w32_), X.d (D.int iK i33_)]] 0) else none) fun d25_ w26_ i27_ => some (Out.mk false V.junk d25_ [[X.d (D.list 5 w26_), X.d (D.int
  iK i27_)]] 0)) fun d12_ w13_ i14_ => some (Out.mk false V.junk d12_ [[X.d (D.list 5 w13_), X.d (D.int iK i14_)]] 0) else none) fun d7_ w8_ i9_ => some (Out.mk false V.junk
  d7_ [[X.d (D.list 5 w8_), X.d (D.int iK i9_)]] 0) := (loop_step ..).trans (by kernel_rfl)
theorem q56_2_eq (Γ : Bool → SemL) (n1 : Nat) (z2 : List (List D)) (z3 x0 x1 : Int) (r2 : List (List D)) (x3 x4 x5 : Int) (s6 : ByteArray) (x7 x8 x9 x10 : Int) (s11 : ByteArray) (r12 r13 r14 : List (List D)) (x15 x16 x17 x18 : Int) (s19 : ByteArray) (x20 x21 : Int) : q56_2 Γ n1 z2 z3 x0 x1 r2 x3 x4 x5 s6 x7 x8 x9 x10 s11 r12 r13 r14 x15 x16 x17 x18 s19 x20 x21 = r_a8IISL1L1L8II_L5I (Γ false 56 [V.one (X.ptr 0 0), V.one (X.d (D.int
  iK x1))] [([Lf.lst 5, Lf.int iK], [X.d (D.list 5 r2), X.d (D.int iK x3)])]) (fun i0_ i1_ u2_ w3_ w4_ w5_ i6_ i7_ w8_ i9_ => bif x0 == 2 then some (Out.mk true
  (V.agg [X.d (D.int iK x17), X.d (D.int iK x18), X.d (D.str s19), X.d (D.list 1 []), X.d (D.list 1 []), X.d (D.list 8 [[D.int iK x9, D.int iK x10, D.str
  s11, D.list 1 r12, D.list 1 r13, D.list 8 r14, D.int iK x15, D.int iK x16], [D.int iK i0_, D.int iK i1_, D.str u2_, D.list 1 w3_, D.list 1 w4_, D.list 8
  w5_, D.int iK i6_, D.int iK i7_]]), X.d (D.int iK x20), X.d (D.int iK x21)]) D.junk [[X.d (D.list 5 w8_), X.d (D.int iK i9_)]] 0) else bif x0 ==
  3 then some (Out.mk true (V.agg [X.d (D.int iK x17), X.d (D.int iK x18), X.d (D.str s19), X.d (D.list 1 []), X.d (D.list 1 []), X.d (D.list 8 [[D.int iK x9, D.int
  iK x10, D.str s11, D.list 1 r12, D.list 1 r13, D.list 8 r14, D.int iK x15, D.int iK x16], [D.int iK i0_, D.int iK i1_, D.str u2_, D.list 1 w3_,
  D.list 1 w4_, D.list 8 w5_, D.int iK i6_, D.int iK i7_]]), X.d (D.int iK x20), X.d (D.int iK x21)]) D.junk [[X.d (D.list 5 w8_), X.d (D.int iK
  i9_)]] 0) else q56_3 Γ n1 z2 z3 x0 w8_ i9_ x4 x5 s6 x7 x8 x9 x10 s11 r12 r13 r14 x15 x16 x17 x18 s19 [[D.int iK x9, D.int iK x10, D.str s11, D.list 1 r12, D.list 1 r13,
  D.list 8 r14, D.int iK x15, D.int iK x16], [D.int iK i0_, D.int iK i1_, D.str u2_, D.list 1 w3_, D.list 1 w4_, D.list 8 w5_, D.int iK i6_, D.int
  iK i7_]] x20 x21) fun d10_ w11_ i12_ => some (Out.mk false V.junk d10_ [[X.d (D.list 5 w11_), X.d (D.int iK i12_)]] 0) := (Jn_step ..).trans (by kernel_rfl)
theorem l101_0_eq (n0 : Nat) (Γ : Bool → SemL) (n2 : Nat) (z3 : List (List D)) (z4 : Int) (s0 : ByteArray) (r1 r2 : List (List D)) (x3 : Int) : l101_0 (n0 + 1) Γ n2 z3 z4 s0
  r1 r2 x3 = r_oB_L5I (Γ false 51 [V.one (X.ptr 0 0), V.one (X.d (D.str (ByteArray.mk #[44])))] [([Lf.lst 5, Lf.int iK], [X.d (D.list 5 r2), X.d (D.int iK x3)])]) (fun c0_
  w1_ i2_ => bif c0_ then q101_1 Γ n0 n2 z3 z4 s0 r1 w1_ i2_ else q101_2 Γ n2 z3 z4 s0 r1 w1_ i2_) fun d3_ w4_ i5_ => some (Out.mk false V.junk d3_ [[X.d (D.list 5 w4_), X.d (D.int
  iK i5_)]] 0) := (loop_step ..).trans (by kernel_rfl)
theorem q94_2_eq (Γ : Bool → SemL) (n1 : Nat) (n2 : Nat) (z3 : List (List D)) (z4 : Int) (r0 : List (List D)) (x1 x2 x3 : Int) (s4 : ByteArray) (x5 x6 x7 x8 : Int) (s9 : ByteArray) (r10 : List (List D)) (x11 x12 : Int) : q94_2 Γ n1 n2 z3 z4 r0 x1 x2 x3 s4 x5 x6 x7 x8 s9 r10 x11 x12 = r_a8IISL1L1L8II_L5I (Γ false 24 [V.one
  (X.ptr 0 0)] [([Lf.lst 5, Lf.int iK], [X.d (D.list 5 r0), X.d (D.int iK x1)])]) (fun i0_ i1_ u2_ w3_ w4_ w5_ i6_ i7_ w8_ i9_ => bif true && true && true && Nat.ble
  ((List.length r10 + List.length [[D.int iK i0_, D.int iK i1_, D.str u2_, D.list 1 w3_, D.list 1 w4_, D.list 8 w5_, D.int iK i6_, D.int iK i7_]]) * 121)
  140737488355328 then l94_0 n1 Γ n2 z3 z4 w8_ i9_ x2 x3 s4 x5 x6 x7 x8 s9 (r10 ++ [[D.int iK i0_, D.int iK i1_, D.str u2_, D.list 1 w3_, D.list 1 w4_, D.list 8 w5_, D.int
  iK i6_, D.int iK i7_]]) x11 x12 else none) fun d10_ w11_ i12_ => some (Out.mk false V.junk d10_ [[X.d (D.list 5 w11_), X.d (D.int iK i12_)]] 0) := (Jn_step
  ..).trans (by kernel_rfl)
theorem q94_3_eq (Γ : Bool → SemL) (n1 : Nat) (z2 : List (List D)) (z3 : Int) (r0 : List (List D)) (x1 x2 x3 : Int) (s4 : ByteArray) (x5 x6 x7 x8 : Int) (s9 : ByteArray) (r10 : List (List D)) (x11 x12 : Int) : q94_3 Γ n1 z2 z3 r0 x1 x2 x3 s4 x5 x6 x7 x8 s9 r10 x11 x12 = r_n_L5I (Γ false 54 [V.one (X.ptr 0 0), V.one (X.d (D.str
  (ByteArray.mk #[41])))] [([Lf.lst 5, Lf.int iK], [X.d (D.list 5 r0), X.d (D.int iK x1)])]) (fun w0_ i1_ => some (Out.mk true (V.agg [X.d (D.int iK x7), X.d (D.int
  iK x8), X.d (D.str s9), X.d (D.list 1 []), X.d (D.list 1 []), X.d (D.list 8 r10), X.d (D.int iK x11), X.d (D.int iK x12)]) D.junk [[X.d (D.list 5 w0_), X.d (D.int
  iK i1_)]] 0)) fun d2_ w3_ i4_ => some (Out.mk false V.junk d2_ [[X.d (D.list 5 w3_), X.d (D.int iK i4_)]] 0) := (Jn_step ..).trans (by kernel_rfl)
theorem q56_3_eq (Γ : Bool → SemL) (n1 : Nat) (z2 : List (List D)) (z3 x0 : Int) (r1 : List (List D)) (x2 x3 x4 : Int) (s5 : ByteArray) (x6 x7 x8 x9 : Int) (s10 : ByteArray) (r11 r12 r13 : List (List D)) (x14 x15 x16 x17 : Int) (s18 : ByteArray) (r19 : List (List D))
  (x20 x21 : Int) : q56_3 Γ n1 z2 z3 x0 r1 x2 x3 x4 s5 x6 x7 x8 x9 s10 r11 r12 r13 x14 x15 x16 x17 s18 r19 x20 x21 = l56_0_v1 n1 Γ z2 z3 x0 r1 x2 x3 x4 s5 x6 x7 x16 x17 s18 r19 x20
  x21 := (Jn_step ..).trans (by kernel_rfl)
theorem q101_1_eq (Γ : Bool → SemL) (n1 : Nat) (n2 : Nat) (z3 : List (List D)) (z4 : Int) (s0 : ByteArray) (r1 r2 : List (List D)) (x3 : Int) : q101_1 Γ n1 n2 z3 z4 s0 r1 r2
  x3 = r_a8IISL1L1L8II_L5I (Γ false 24 [V.one (X.ptr 0 0)] [([Lf.lst 5, Lf.int iK], [X.d (D.list 5 r2), X.d (D.int iK x3)])]) (fun i0_ i1_ u2_ w3_ w4_ w5_ i6_ i7_ w8_ i9_ =>
  bif true && true && true && Nat.ble ((List.length r1 + List.length [[D.int iK i0_, D.int iK i1_, D.str u2_, D.list 1 w3_, D.list 1 w4_, D.list 8 w5_, D.int iK
  i6_, D.int iK i7_]]) * 121) 140737488355328 then l101_0 n1 Γ n2 z3 z4 s0 (r1 ++ [[D.int iK i0_, D.int iK i1_, D.str u2_, D.list 1 w3_, D.list 1 w4_, D.list 8 w5_,
  D.int iK i6_, D.int iK i7_]]) w8_ i9_ else none) fun d10_ w11_ i12_ => some (Out.mk false V.junk d10_ [[X.d (D.list 5 w11_), X.d (D.int iK i12_)]] 0) := (Jn_step
  ..).trans (by kernel_rfl)
theorem q101_2_eq (Γ : Bool → SemL) (n1 : Nat) (z2 : List (List D)) (z3 : Int) (s0 : ByteArray) (r1 r2 : List (List D)) (x3 : Int) : q101_2 Γ n1 z2 z3 s0 r1 r2 x3 = r_n_L5I
  (Γ false 54 [V.one (X.ptr 0 0), V.one (X.d (D.str s0))] [([Lf.lst 5, Lf.int iK], [X.d (D.list 5 r2), X.d (D.int iK x3)])]) (fun w0_ i1_ => some (Out.mk true (V.one (X.d
  (D.list 8 r1))) D.junk [[X.d (D.list 5 w0_), X.d (D.int iK i1_)]] 0)) fun d2_ w3_ i4_ => some (Out.mk false V.junk d2_ [[X.d (D.list 5 w3_), X.d (D.int iK i4_)]] 0) :=
  (Jn_step ..).trans (by kernel_rfl)
theorem l56_0_v1_eq (n0 : Nat) (Γ : Bool → SemL) (z2 : List (List D)) (z3 x0 : Int) (r1 : List (List D)) (x2 x3 x4 : Int) (s5 : ByteArray) (x6 x7 x8 x9 : Int) (s10 : ByteArray) (r11 : List (List D)) (x12 x13 : Int) : l56_0_v1 (n0 + 1) Γ z2 z3 x0 r1 x2 x3 x4 s5 x6 x7 x8 x9 s10 r11 x12 x13 = r_a5ISIII_L5I (Γ false 49 [V.one
  (X.ptr 0 0)] [([Lf.lst 5, Lf.int iK], [X.d (D.list 5 r1), X.d (D.int iK x2)])]) (fun i0_ u1_ i2_ i3_ i4_ w5_ i6_ => r_oS_L5I (Γ false 82 [V.one (X.ptr 0 0), V.one (X.d
  (D.int iK x0))] [([Lf.lst 5, Lf.int iK], [X.d (D.list 5 w5_), X.d (D.int iK i6_)])]) (fun u10_ w11_ i12_ => bif beqL (Array.toList (ByteArray.data u10_))
  (Array.toList (ByteArray.data (ByteArray.mk #[]))) then some (Out.mk true (V.agg [X.d (D.int iK x8), X.d (D.int iK x9), X.d (D.str s10), X.d (D.list 1 []), X.d (D.list 1
  []), X.d (D.list 8 r11), X.d (D.int iK x12), X.d (D.int iK x13)]) D.junk [[X.d (D.list 5 w11_), X.d (D.int iK i12_)]] 0) else q56_1_v1 Γ n0 z2 z3 x0 u10_ w11_
  i12_ x3 x4 s5 x6 x7 x8 x9 s10 r11 x12 x13 i0_ u1_ i2_ i3_ i4_) fun d13_ w14_ i15_ => some (Out.mk false V.junk d13_ [[X.d (D.list 5 w14_), X.d (D.int iK i15_)]] 0)) fun d7_ w8_ i9_
  => some (Out.mk false V.junk d7_ [[X.d (D.list 5 w8_), X.d (D.int iK i9_)]] 0) := (loop_step ..).trans (by kernel_rfl)
theorem q56_1_v1_eq (Γ : Bool → SemL) (n1 : Nat) (z2 : List (List D)) (z3 x0 : Int) (s1 : ByteArray) (r2 : List (List D)) (x3 x4 x5 : Int) (s6 : ByteArray) (x7 x8 x9 x10 : Int) (s11 : ByteArray) (r12 : List (List D)) (x13 x14 x15 : Int) (s16 : ByteArray) (x17 x18 x19 : Int) : q56_1_v1 Γ n1 z2 z3 x0
  s1 r2 x3 x4 x5 s6 x7 x8 x9 x10 s11 r12 x13 x14 x15 s16 x17 x18 x19 = r_a8IISN1N1N8II (Γ false 52 [V.one (X.d (D.int iK 7)), V.agg [X.d (D.int iK x15), X.d (D.str s16), X.d
  (D.int iK x17), X.d (D.int iK x18), X.d (D.int iK x19)]] []) (fun i0_ i1_ u2_ i3_ i4_ => bif x0 == 3 then q56_2_v1 Γ n1 z2 z3 x0 3 r2 (IntKind.wrap iK
  (x3 + 1)) x4 x5 s6 x7 x8 x9 x10 s11 r12 x13 x14 i0_ i1_ s1 i3_ i4_ else q56_2_v1 Γ n1 z2 z3 x0 (IntKind.wrap iK (x0 + 1)) r2 (IntKind.wrap iK (x3 + 1)) x4 x5 s6 x7 x8 x9
  x10 s11 r12 x13 x14 i0_ i1_ s1 i3_ i4_) fun d5_ => some (Out.mk false V.junk d5_ [[X.d (D.list 5 r2), X.d (D.int iK (IntKind.wrap iK (x3 + 1)))]] 0) := (Jn_step ..).trans
  (by kernel_rfl)
theorem q56_2_v1_eq (Γ : Bool → SemL) (n1 : Nat) (z2 : List (List D)) (z3 x0 x1 : Int) (r2 : List (List D)) (x3 x4 x5 : Int) (s6 : ByteArray) (x7 x8 x9 x10 : Int) (s11 : ByteArray) (r12 : List (List D)) (x13 x14 x15 x16 : Int) (s17 : ByteArray) (x18 x19 : Int) : q56_2_v1 Γ n1 z2 z3 x0 x1 r2
  x3 x4 x5 s6 x7 x8 x9 x10 s11 r12 x13 x14 x15 x16 s17 x18 x19 = r_a8IISL1L1L8II_L5I (Γ false 56 [V.one (X.ptr 0 0), V.one (X.d (D.int iK x1))] [([Lf.lst 5, Lf.int iK], [X.d
  (D.list 5 r2), X.d (D.int iK x3)])]) (fun i0_ i1_ u2_ w3_ w4_ w5_ i6_ i7_ w8_ i9_ => bif x0 == 2 then some (Out.mk true (V.agg [X.d (D.int iK x15), X.d (D.int iK
  x16), X.d (D.str s17), X.d (D.list 1 []), X.d (D.list 1 []), X.d (D.list 8 [[D.int iK x9, D.int iK x10, D.str s11, D.list 1 [], D.list 1 [], D.list 8 r12, D.int
  iK x13, D.int iK x14], [D.int iK i0_, D.int iK i1_, D.str u2_, D.list 1 w3_, D.list 1 w4_, D.list 8 w5_, D.int iK i6_, D.int iK i7_]]),
  X.d (D.int iK x18), X.d (D.int iK x19)]) D.junk [[X.d (D.list 5 w8_), X.d (D.int iK i9_)]] 0) else bif x0 == 3 then some (Out.mk true (V.agg [X.d (D.int
  iK x15), X.d (D.int iK x16), X.d (D.str s17), X.d (D.list 1 []), X.d (D.list 1 []), X.d (D.list 8 [[D.int iK x9, D.int iK x10, D.str s11, D.list 1 [],
  D.list 1 [], D.list 8 r12, D.int iK x13, D.int iK x14], [D.int iK i0_, D.int iK i1_, D.str u2_, D.list 1 w3_, D.list 1 w4_, D.list 8 w5_, D.int
  iK i6_, D.int iK i7_]]), X.d (D.int iK x18), X.d (D.int iK x19)]) D.junk [[X.d (D.list 5 w8_), X.d (D.int iK i9_)]] 0) else q56_3_v1 Γ n1 z2 z3
  x0 w8_ i9_ x4 x5 s6 x7 x8 x9 x10 s11 r12 x13 x14 x15 x16 s17 [[D.int iK x9, D.int iK x10, D.str s11, D.list 1 [], D.list 1 [], D.list 8 r12, D.int iK x13, D.int
  iK x14], [D.int iK i0_, D.int iK i1_, D.str u2_, D.list 1 w3_, D.list 1 w4_, D.list 8 w5_, D.int iK i6_, D.int iK i7_]] x18 x19) fun d10_ w11_
  i12_ => some (Out.mk false V.junk d10_ [[X.d (D.list 5 w11_), X.d (D.int iK i12_)]] 0) := (Jn_step ..).trans (by kernel_rfl)
theorem q56_3_v1_eq (Γ : Bool → SemL) (n1 : Nat) (z2 : List (List D)) (z3 x0 : Int) (r1 : List (List D)) (x2 x3 x4 : Int) (s5 : ByteArray) (x6 x7 x8 x9 : Int) (s10 : ByteArray) (r11 : List (List D)) (x12 x13 x14 x15 : Int) (s16 : ByteArray) (r17 : List (List D)) (x18 x19 : Int) : q56_3_v1 Γ n1 z2 z3
  x0 r1 x2 x3 x4 s5 x6 x7 x8 x9 s10 r11 x12 x13 x14 x15 s16 r17 x18 x19 = l56_0_v1 n1 Γ z2 z3 x0 r1 x2 x3 x4 s5 x6 x7 x14 x15 s16 r17 x18 x19 := (Jn_step ..).trans (by kernel_rfl)
theorem call57 (x0 x1 : Int) (s2 : ByteArray) (r3 r4 r5 : List (List D)) (x6 x7 x8 : Int) {o : Out} (h : Ev (fun _ k n => e57 (Ak
  k) n x0 x1 s2 r3 r4 r5 x6 x7 x8) o) : Cal 57 [V.agg [X.d (D.int iK x0), X.d (D.int iK x1), X.d (D.str s2), X.d (D.list 1 r3), X.d (D.list 1 r4), X.d (D.list 8 r5), X.d
  (D.int iK x6), X.d (D.int iK x7)], V.one (X.d (D.int iK x8))] [] o := Ev.call (E := fun Γ n1 => e57 Γ n1 x0 x1 s2 r3 r4 r5 x6 x7 x8) (fun k => call_step (by
  kernel_rfl) rfl) h
theorem call24 (r0 : List (List D)) (x1 : Int) {o : Out} (h : Ev (fun _ k n => e24 (Ak k) n r0 x1) o) : Cal 24 [V.one (X.ptr 0 0)] [([Lf.lst 5, Lf.int iK], [X.d (D.list 5 r0), X.d
  (D.int iK x1)])] o := Ev.call (E := fun Γ n1 => e24 Γ n1 r0 x1) (fun k => call_step (by kernel_rfl) rfl) h
theorem call56 (x0 : Int) (r1 : List (List D)) (x2 : Int) {o : Out} (h : Ev (fun _ k n => e56 (Ak k) n x0 r1 x2) o) : Cal 56 [V.one (X.ptr 0 0), V.one (X.d (D.int iK x0))] [([Lf.lst
  5, Lf.int iK], [X.d (D.list 5 r1), X.d (D.int iK x2)])] o := Ev.call (E := fun Γ n1 => e56 Γ n1 x0 r1 x2) (fun k => call_step (by kernel_rfl) rfl) h
theorem call94 (r0 : List (List D)) (x1 : Int) {o : Out} (h : Ev (fun _ k n => e94 (Ak k) n r0 x1) o) : Cal 94 [V.one (X.ptr 0 0)] [([Lf.lst 5, Lf.int iK], [X.d (D.list 5 r0), X.d
  (D.int iK x1)])] o := Ev.call (E := fun Γ n1 => e94 Γ n1 r0 x1) (fun k => call_step (by kernel_rfl) rfl) h
theorem call101 (s0 : ByteArray) (r1 : List (List D)) (x2 : Int) {o : Out} (h : Ev (fun _ k n => e101 (Ak k) n s0 r1 x2) o) : Cal 101 [V.one (X.ptr 0 0), V.one (X.d (D.str s0))] [([Lf.lst 5,
  Lf.int iK], [X.d (D.list 5 r1), X.d (D.int iK x2)])] o := Ev.call (E := fun Γ n1 => e101 Γ n1 s0 r1 x2) (fun k => call_step (by kernel_rfl) rfl) h
end Go.Proofs.Ytbmcafehpgimfaa.Ps
