/- What the pieces of the functions do, as functions of their data. Printed by pack4.py. -/
import Derived.Test.YtbmcafehpgimfaaPv0
namespace Go.Proofs.Ytbmcafehpgimfaa.Ps
set_option maxHeartbeats 0
set_option maxRecDepth 100000
set_option linter.unusedVariables false
open Go Go.RowKit
open Go.IntKind renaming i64 → iK, u8 → uK
noncomputable def e19 (Γ : Bool → SemL) (n1 : Nat) (s0 : ByteArray) : Option Out := runF Γ shp rc false (shp 19) sf19 n1 [V.one (X.d (D.str s0))] []
noncomputable def e11 (Γ : Bool → SemL) (n1 : Nat) (s0 : ByteArray) : Option Out := runF Γ shp rc false (shp 11) sf11 n1 [V.one (X.d (D.str s0))] []
noncomputable def e22f44 (Γ : Bool → SemL) (n1 : Nat) (s0 : ByteArray) (r1 r2 : List (List D)) (x3 x4 : Int) (s5 : ByteArray) (r6 r7 r8 : List (List D)) (x9 x10 : Int) : Option Out := runF Γ shp rc false (shp 22) sf22 n1 [V.one (X.d (D.str s0)), V.one (X.fn 44 [X.ptr 0 0])] [([Lf.lst 5, Lf.lst 14, Lf.int
  iK, Lf.int iK, Lf.str, Lf.lst 1, Lf.lst 1, Lf.lst 8, Lf.int iK, Lf.int iK], [X.d (D.list 5 r1), X.d (D.list 14 r2), X.d (D.int iK x3), X.d
  (D.int iK x4), X.d (D.str s5), X.d (D.list 1 r6), X.d (D.list 1 r7), X.d (D.list 8 r8), X.d (D.int iK x9), X.d (D.int iK x10)])]
noncomputable def e46 (Γ : Bool → SemL) (n1 : Nat) (r0 r1 : List (List D)) (x2 x3 : Int) (s4 : ByteArray) (r5 r6 r7 : List (List D)) (x8 x9 : Int) : Option Out := runF Γ shp rc false (shp 46) sf46 n1 [V.agg [X.d (D.list 5 r0), X.d (D.list 14 r1), X.d (D.int iK x2), X.d (D.int iK x3), X.d
  (D.str s4), X.d (D.list 1 r5), X.d (D.list 1 r6), X.d (D.list 8 r7), X.d (D.int iK x8), X.d (D.int iK x9)]] []
noncomputable def q19_0 (Γ : Bool → SemL) (n1 : Nat) (x0 x1 : Int) (s2 : ByteArray) (x3 x4 x5 : Int) (s6 : ByteArray) (x7 x8 : Int) (r9 r10 : List (List D)) (x11 x12 : Int) (s13 : ByteArray) (r14 r15 r16 : List (List D)) (x17 x18 x19 : Int) (s20 : ByteArray) (x21 x22 : Int) : Option Out := Jn (Γ false) shp n1 j19_0 (St.mk [(2, V.one (X.ptr 0 0)), (3, V.one (X.ptr 1 0)), (4, V.one (X.ptr 2 0)), (5, V.one (X.ptr 3 0))] [(0, Blk.mk [Lf.lst 5, Lf.lst
  14, Lf.int iK, Lf.int iK, Lf.str, Lf.lst 1, Lf.lst 1, Lf.lst 8, Lf.int iK, Lf.int iK] [X.nilL 5, X.nilL 14, X.d (D.int iK x0), X.d (D.int
  iK x1), X.d (D.str s2), X.nilL 1, X.nilL 1, X.nilL 8, X.d (D.int iK x3), X.d (D.int iK x4)]), (1, Blk.mk [Lf.int iK, Lf.str, Lf.int iK, Lf.int
  iK] [X.d (D.int iK x5), X.d (D.str s6), X.d (D.int iK x7), X.d (D.int iK x8)]), (2, Blk.mk [Lf.lst 5, Lf.lst 14, Lf.int iK, Lf.int iK,
  Lf.str, Lf.lst 1, Lf.lst 1, Lf.lst 8, Lf.int iK, Lf.int iK] [X.d (D.list 5 r9), X.d (D.list 14 r10), X.d (D.int iK x11), X.d (D.int iK x12), X.d (D.str
  s13), X.d (D.list 1 r14), X.d (D.list 1 r15), X.d (D.list 8 r16), X.d (D.int iK x17), X.d (D.int iK x18)]), (3, Blk.mk [Lf.int iK, Lf.str, Lf.int iK,
  Lf.int iK] [X.d (D.int iK x19), X.d (D.str s20), X.d (D.int iK x21), X.d (D.int iK x22)])] [] 4 0 0 []) (finK (Γ true) rc false (shp 19) (SFunc.results
  sf19) 0)
noncomputable def e22f23 (Γ : Bool → SemL) (n1 : Nat) (s0 : ByteArray) (x1 x2 : Int) (s3 : ByteArray) (r4 r5 r6 : List (List D)) (x7 x8 : Int) : Option Out := runF Γ shp rc false (shp 22) sf22 n1 [V.one (X.d (D.str s0)), V.one (X.fn 23 [X.ptr 0 0])] [([Lf.int iK, Lf.int iK, Lf.str, Lf.lst 1, Lf.lst 1, Lf.lst
  8, Lf.int iK, Lf.int iK], [X.d (D.int iK x1), X.d (D.int iK x2), X.d (D.str s3), X.d (D.list 1 r4), X.d (D.list 1 r5), X.d (D.list 8 r6), X.d (D.int
  iK x7), X.d (D.int iK x8)])]
noncomputable def e25 (Γ : Bool → SemL) (n1 : Nat) (x0 x1 : Int) (s2 : ByteArray) (r3 r4 r5 : List (List D)) (x6 x7 : Int) : Option Out :=
  runF Γ shp rc false (shp 25) sf25 n1 [V.agg [X.d (D.int iK x0), X.d (D.int iK x1), X.d (D.str s2), X.d (D.list 1 r3), X.d (D.list 1 r4), X.d (D.list 8 r5), X.d (D.int
  iK x6), X.d (D.int iK x7)]] []
noncomputable def q11_0 (Γ : Bool → SemL) (n1 : Nat) (x0 x1 : Int) (s2 : ByteArray) (x3 x4 x5 : Int) (s6 : ByteArray) (x7 x8 x9 x10 : Int) (s11
  : ByteArray) (r12 r13 r14 : List (List D)) (x15 x16 x17 : Int) (s18 : ByteArray) (x19 x20 : Int) : Option Out := Jn (Γ false) shp
  n1 j11_0 (St.mk [(2, V.one (X.ptr 0 0)), (3, V.one (X.ptr 1 0)), (4, V.one (X.ptr 2 0)), (5, V.one (X.ptr 3 0))] [(0, Blk.mk [Lf.int iK, Lf.int iK, Lf.str, Lf.lst 1,
  Lf.lst 1, Lf.lst 8, Lf.int iK, Lf.int iK] [X.d (D.int iK x0), X.d (D.int iK x1), X.d (D.str s2), X.nilL 1, X.nilL 1, X.nilL 8, X.d (D.int iK
  x3), X.d (D.int iK x4)]), (1, Blk.mk [Lf.int iK, Lf.str, Lf.int iK, Lf.int iK] [X.d (D.int iK x5), X.d (D.str s6), X.d (D.int iK x7),
  X.d (D.int iK x8)]), (2, Blk.mk [Lf.int iK, Lf.int iK, Lf.str, Lf.lst 1, Lf.lst 1, Lf.lst 8, Lf.int iK, Lf.int iK] [X.d (D.int iK x9),
  X.d (D.int iK x10), X.d (D.str s11), X.d (D.list 1 r12), X.d (D.list 1 r13), X.d (D.list 8 r14), X.d (D.int iK x15), X.d (D.int iK x16)]), (3, Blk.mk [Lf.int
  iK, Lf.str, Lf.int iK, Lf.int iK] [X.d (D.int iK x17), X.d (D.str s18), X.d (D.int iK x19), X.d (D.int iK x20)])] [] 4 0 0 []) (finK (Γ
  true) rc false (shp 11) (SFunc.results sf11) 0)
noncomputable def q22_0 (Γ : Bool → SemL) (n1 : Nat) (z2 z3 : List (List D)) (z4 z5 : Int) (z6 : ByteArray) (z7 z8 z9 : List (List D)) (z10 z11 : Int) (r0 r1 r2 : List (List D)) (x3 x4 : Int) (s5 : ByteArray) (r6 r7 r8 : List (List D)) (x9 x10 x11 : Int) (s12 : ByteArray) (x13 x14 : Int) : Option Out := Jn (Γ false) shp n1 j22_0 (St.mk [(1, V.one (X.fn 44 [X.ptr 0 0])), (4, V.one (X.ptr 1
  0)), (5, V.one (X.d (D.list 5 r0)))] [(0, Blk.mk [Lf.lst 5, Lf.lst 14, Lf.int iK, Lf.int iK, Lf.str, Lf.lst 1, Lf.lst 1, Lf.lst 8, Lf.int iK, Lf.int iK]
  [X.d (D.list 5 r1), X.d (D.list 14 r2), X.d (D.int iK x3), X.d (D.int iK x4), X.d (D.str s5), X.d (D.list 1 r6), X.d (D.list 1 r7), X.d (D.list 8 r8), X.d (D.int
  iK x9), X.d (D.int iK x10)]), (1, Blk.mk [Lf.int iK, Lf.str, Lf.int iK, Lf.int iK] [X.d (D.int iK x11), X.d (D.str s12), X.d (D.int
  iK x13), X.d (D.int iK x14)])] [] 2 0 1 []) (finK (Γ true) rc false (shp 22) (SFunc.results sf22) (List.length [([Lf.lst 5, Lf.lst 14, Lf.int iK, Lf.int
  iK, Lf.str, Lf.lst 1, Lf.lst 1, Lf.lst 8, Lf.int iK, Lf.int iK], [X.d (D.list 5 z2), X.d (D.list 14 z3), X.d (D.int iK z4), X.d (D.int iK z5),
  X.d (D.str z6), X.d (D.list 1 z7), X.d (D.list 1 z8), X.d (D.list 8 z9), X.d (D.int iK z10), X.d (D.int iK z11)])]))
noncomputable def l46_0 (n0 : Nat) (Γ : Bool → SemL) (n2 : Nat) (r0 : List (List D)) (x1 x2 : Int) (r3 r4 : List (List D)) (x5 x6 : Int) (s7 : ByteArray) (r8 r9 r10 : List (List D)) (x11 x12 x13 : Int) (s14 : ByteArray) (x15 x16 : Int) : Option Out := loopK (Γ false) shp n0 [1, 2, 3,
  15, 16, 17] lb46_0 (St.mk [(1, V.one (X.ptr 0 0)), (2, V.one (X.ptr 1 0)), (3, V.one (X.fn 74 [])), (15, V.one (X.d (D.list 5 r0))), (16, V.one (X.d (D.int iK x1))), (17, V.one
  (X.d (D.int iK x2)))] [(0, Blk.mk [Lf.lst 5, Lf.lst 14, Lf.int iK, Lf.int iK, Lf.str, Lf.lst 1, Lf.lst 1, Lf.lst 8, Lf.int iK, Lf.int iK] [X.d
  (D.list 5 r3), X.d (D.list 14 r4), X.d (D.int iK x5), X.d (D.int iK x6), X.d (D.str s7), X.d (D.list 1 r8), X.d (D.list 1 r9), X.d (D.list 8 r10), X.d (D.int iK
  x11), X.d (D.int iK x12)]), (1, Blk.mk [Lf.int iK, Lf.str, Lf.int iK, Lf.int iK] [X.d (D.int iK x13), X.d (D.str s14), X.d (D.int iK
  x15), X.d (D.int iK x16)])] [] 2 0 0 []) (kBlk 0 (kSeq (some [1, 2, 3]) (fun s K => Jn (Γ false) shp n2 j46_2 s K) (finK (Γ true) rc false (shp 46) (SFunc.results sf46) 0)))
noncomputable def q19_1 (Γ : Bool → SemL) (n1 : Nat) (x0 x1 : Int) (s2 : ByteArray) (x3 x4 x5 : Int) (s6 : ByteArray) (x7 x8 : Int) (r9 r10 : List (List D)) (x11 x12 : Int) (s13 : ByteArray) (r14 r15 r16 : List (List D)) (x17 x18 x19 : Int) (s20 : ByteArray) (x21 x22 : Int) : Option Out := Jn (Γ false) shp n1 j19_1 (St.mk [(2, V.one (X.ptr 0 0)), (3, V.one (X.ptr 1 0)), (4, V.one (X.ptr 2 0)), (5, V.one (X.ptr 3 0))] [(0, Blk.mk [Lf.lst 5, Lf.lst
  14, Lf.int iK, Lf.int iK, Lf.str, Lf.lst 1, Lf.lst 1, Lf.lst 8, Lf.int iK, Lf.int iK] [X.nilL 5, X.nilL 14, X.d (D.int iK x0), X.d (D.int
  iK x1), X.d (D.str s2), X.nilL 1, X.nilL 1, X.nilL 8, X.d (D.int iK x3), X.d (D.int iK x4)]), (1, Blk.mk [Lf.int iK, Lf.str, Lf.int iK, Lf.int
  iK] [X.d (D.int iK x5), X.d (D.str s6), X.d (D.int iK x7), X.d (D.int iK x8)]), (2, Blk.mk [Lf.lst 5, Lf.lst 14, Lf.int iK, Lf.int iK,
  Lf.str, Lf.lst 1, Lf.lst 1, Lf.lst 8, Lf.int iK, Lf.int iK] [X.d (D.list 5 r9), X.d (D.list 14 r10), X.d (D.int iK x11), X.d (D.int iK x12), X.d (D.str
  s13), X.d (D.list 1 r14), X.d (D.list 1 r15), X.d (D.list 8 r16), X.d (D.int iK x17), X.d (D.int iK x18)]), (3, Blk.mk [Lf.int iK, Lf.str, Lf.int iK,
  Lf.int iK] [X.d (D.int iK x19), X.d (D.str s20), X.d (D.int iK x21), X.d (D.int iK x22)])] [] 4 0 0 []) (finK (Γ true) rc false (shp 19) (SFunc.results
  sf19) 0)
noncomputable def q22_0_v1 (Γ : Bool → SemL) (n1 : Nat) (z2 z3 : Int) (z4 : ByteArray) (z5 z6 z7 : List (List D)) (z8 z9 : Int) (r0 : List (List D)) (x1 x2 : Int) (s3 : ByteArray) (r4 r5 r6 : List (List D)) (x7 x8 x9 : Int) (s10 : ByteArray) (x11 x12 : Int) :
  Option Out := Jn (Γ false) shp n1 j22_0 (St.mk [(1, V.one (X.fn 23 [X.ptr 0 0])), (4, V.one (X.ptr 1 0)), (5, V.one (X.d (D.list 5 r0)))] [(0, Blk.mk [Lf.int iK, Lf.int
  iK, Lf.str, Lf.lst 1, Lf.lst 1, Lf.lst 8, Lf.int iK, Lf.int iK] [X.d (D.int iK x1), X.d (D.int iK x2), X.d (D.str s3), X.d (D.list 1 r4), X.d
  (D.list 1 r5), X.d (D.list 8 r6), X.d (D.int iK x7), X.d (D.int iK x8)]), (1, Blk.mk [Lf.int iK, Lf.str, Lf.int iK, Lf.int iK] [X.d (D.int
  iK x9), X.d (D.str s10), X.d (D.int iK x11), X.d (D.int iK x12)])] [] 2 0 1 []) (finK (Γ true) rc false (shp 22) (SFunc.results sf22) (List.length [([Lf.int
  iK, Lf.int iK, Lf.str, Lf.lst 1, Lf.lst 1, Lf.lst 8, Lf.int iK, Lf.int iK], [X.d (D.int iK z2), X.d (D.int iK z3), X.d (D.str z4), X.d
  (D.list 1 z5), X.d (D.list 1 z6), X.d (D.list 8 z7), X.d (D.int iK z8), X.d (D.int iK z9)])]))
noncomputable def q25_0 (Γ : Bool → SemL) (n1 : Nat) (x0 : Int) (s1 : ByteArray) (x2 x3 : Int) : Option Out := Jn (Γ false) shp n1 j25_0 (St.mk [(2, V.one (X.ptr 0 0))] [(0, Blk.mk
  [Lf.int iK, Lf.str, Lf.int iK, Lf.int iK] [X.d (D.int iK x0), X.d (D.str s1), X.d (D.int iK x2), X.d (D.int iK x3)])] [] 1 0 0 [])
  (finK (Γ true) rc false (shp 25) (SFunc.results sf25) 0)
noncomputable def q11_1 (Γ : Bool → SemL) (n1 : Nat) (x0 x1 : Int) (s2 : ByteArray) (x3 x4 x5 : Int) (s6 : ByteArray) (x7 x8 x9 x10 : Int) (s11
  : ByteArray) (r12 r13 r14 : List (List D)) (x15 x16 x17 : Int) (s18 : ByteArray) (x19 x20 : Int) : Option Out := Jn (Γ false) shp
  n1 j11_1 (St.mk [(2, V.one (X.ptr 0 0)), (3, V.one (X.ptr 1 0)), (4, V.one (X.ptr 2 0)), (5, V.one (X.ptr 3 0))] [(0, Blk.mk [Lf.int iK, Lf.int iK, Lf.str, Lf.lst 1,
  Lf.lst 1, Lf.lst 8, Lf.int iK, Lf.int iK] [X.d (D.int iK x0), X.d (D.int iK x1), X.d (D.str s2), X.nilL 1, X.nilL 1, X.nilL 8, X.d (D.int iK
  x3), X.d (D.int iK x4)]), (1, Blk.mk [Lf.int iK, Lf.str, Lf.int iK, Lf.int iK] [X.d (D.int iK x5), X.d (D.str s6), X.d (D.int iK x7),
  X.d (D.int iK x8)]), (2, Blk.mk [Lf.int iK, Lf.int iK, Lf.str, Lf.lst 1, Lf.lst 1, Lf.lst 8, Lf.int iK, Lf.int iK] [X.d (D.int iK x9),
  X.d (D.int iK x10), X.d (D.str s11), X.d (D.list 1 r12), X.d (D.list 1 r13), X.d (D.list 8 r14), X.d (D.int iK x15), X.d (D.int iK x16)]), (3, Blk.mk [Lf.int
  iK, Lf.str, Lf.int iK, Lf.int iK] [X.d (D.int iK x17), X.d (D.str s18), X.d (D.int iK x19), X.d (D.int iK x20)])] [] 4 0 0 []) (finK (Γ
  true) rc false (shp 11) (SFunc.results sf11) 0)
noncomputable def e44 (Γ : Bool → SemL) (n1 : Nat) (r0 : List (List D)) (x1 : Int) (r2 r3 : List (List D)) (x4 x5 : Int) (s6 : ByteArray) (r7 r8 r9 : List (List D)) (x10 x11 : Int) : Option Out := runF Γ shp rc false (shp 44) sf44 n1 [V.one (X.ptr 0 0), V.one (X.ptr 1 0)] [([Lf.lst 5, Lf.int iK],
  [X.d (D.list 5 r0), X.d (D.int iK x1)]), ([Lf.lst 5, Lf.lst 14, Lf.int iK, Lf.int iK, Lf.str, Lf.lst 1, Lf.lst 1, Lf.lst 8, Lf.int iK, Lf.int
  iK], [X.d (D.list 5 r2), X.d (D.list 14 r3), X.d (D.int iK x4), X.d (D.int iK x5), X.d (D.str s6), X.d (D.list 1 r7), X.d (D.list 1 r8), X.d (D.list 8 r9), X.d
  (D.int iK x10), X.d (D.int iK x11)])]
noncomputable def e49 (Γ : Bool → SemL) (n1 : Nat) (r0 : List (List D)) (x1 : Int) : Option Out := runF Γ shp rc false (shp 49) sf49 n1 [V.one (X.ptr 0 0)] [([Lf.lst 5, Lf.int iK],
  [X.d (D.list 5 r0), X.d (D.int iK x1)])]
noncomputable def e50 (Γ : Bool → SemL) (n1 : Nat) (r0 : List (List D)) (x1 : Int) : Option Out := runF Γ shp rc false (shp 50) sf50 n1 [V.one (X.ptr 0 0)] [([Lf.lst 5, Lf.int iK],
  [X.d (D.list 5 r0), X.d (D.int iK x1)])]
noncomputable def q22_1 (Γ : Bool → SemL) (n1 : Nat) (z2 z3 : List (List D)) (z4 z5 : Int) (z6 : ByteArray) (z7 z8 z9 : List (List D)) (z10 z11 : Int) (r0 r1 : List (List D)) (x2 x3 : Int) (s4 : ByteArray) (r5 r6 r7 : List (List D)) (x8 x9 x10 : Int) (s11 : ByteArray) (x12 x13 : Int) : Option Out := Jn (Γ false) shp n1 j22_1 (St.mk [(4, V.one (X.ptr 1 0))] [(0, Blk.mk [Lf.lst 5, Lf.lst 14, Lf.int
  iK, Lf.int iK, Lf.str, Lf.lst 1, Lf.lst 1, Lf.lst 8, Lf.int iK, Lf.int iK] [X.d (D.list 5 r0), X.d (D.list 14 r1), X.d (D.int iK x2), X.d (D.int
  iK x3), X.d (D.str s4), X.d (D.list 1 r5), X.d (D.list 1 r6), X.d (D.list 8 r7), X.d (D.int iK x8), X.d (D.int iK x9)]), (1, Blk.mk [Lf.int iK, Lf.str,
  Lf.int iK, Lf.int iK] [X.d (D.int iK x10), X.d (D.str s11), X.d (D.int iK x12), X.d (D.int iK x13)])] [] 2 0 1 [(48, [V.one (X.ptr 1 0)])])
  (finK (Γ true) rc false (shp 22) (SFunc.results sf22) (List.length [([Lf.lst 5, Lf.lst 14, Lf.int iK, Lf.int iK, Lf.str, Lf.lst 1, Lf.lst 1, Lf.lst 8, Lf.int iK,
  Lf.int iK], [X.d (D.list 5 z2), X.d (D.list 14 z3), X.d (D.int iK z4), X.d (D.int iK z5), X.d (D.str z6), X.d (D.list 1 z7), X.d (D.list 1 z8), X.d (D.list 8 z9),
  X.d (D.int iK z10), X.d (D.int iK z11)])]))
noncomputable def q46_0 (Γ : Bool → SemL) (n1 : Nat) (n2 : Nat) (r0 : List (List D)) (x1 x2 : Int) (r3 r4 : List (List D)) (x5 x6 : Int) (s7 : ByteArray) (r8 r9 r10 : List (List D)) (x11 x12 x13 : Int) (s14 : ByteArray) (x15 x16 : Int) : Option Out := Jn (Γ false) shp n1 j46_0 (St.mk
  [(1, V.one (X.ptr 0 0)), (2, V.one (X.ptr 1 0)), (3, V.one (X.fn 74 [])), (15, V.one (X.d (D.list 5 r0))), (16, V.one (X.d (D.int iK x1))), (17, V.one (X.d (D.int iK
  x2)))] [(0, Blk.mk [Lf.lst 5, Lf.lst 14, Lf.int iK, Lf.int iK, Lf.str, Lf.lst 1, Lf.lst 1, Lf.lst 8, Lf.int iK, Lf.int iK] [X.d (D.list 5 r3), X.d
  (D.list 14 r4), X.d (D.int iK x5), X.d (D.int iK x6), X.d (D.str s7), X.d (D.list 1 r8), X.d (D.list 1 r9), X.d (D.list 8 r10), X.d (D.int iK x11), X.d (D.int
  iK x12)]), (1, Blk.mk [Lf.int iK, Lf.str, Lf.int iK, Lf.int iK] [X.d (D.int iK x13), X.d (D.str s14), X.d (D.int iK x15), X.d (D.int
  iK x16)])] [] 2 0 0 []) (kLoop (loopK (Γ false) shp n1) [1, 2, 3, 15, 16, 17] lb46_0 (kBlk 0 (kSeq (some [1, 2, 3]) (fun s K => Jn (Γ false) shp n2 j46_2 s K) (finK (Γ true) rc
  false (shp 46) (SFunc.results sf46) 0))))
noncomputable def q46_2 (Γ : Bool → SemL) (n1 : Nat) (r0 r1 : List (List D)) (x2 x3 : Int) (s4 : ByteArray) (r5 r6 r7 : List (List D)) (x8 x9 x10 : Int) (s11 : ByteArray) (x12 x13 : Int) : Option Out := Jn (Γ false) shp n1 j46_2 (St.mk [(1, V.one (X.ptr 0 0)), (2, V.one (X.ptr 1 0)), (3,
  V.one (X.fn 74 []))] [(0, Blk.mk [Lf.lst 5, Lf.lst 14, Lf.int iK, Lf.int iK, Lf.str, Lf.lst 1, Lf.lst 1, Lf.lst 8, Lf.int iK, Lf.int iK] [X.d (D.list 5
  r0), X.d (D.list 14 r1), X.d (D.int iK x2), X.d (D.int iK x3), X.d (D.str s4), X.d (D.list 1 r5), X.d (D.list 1 r6), X.d (D.list 8 r7), X.d (D.int iK x8), X.d
  (D.int iK x9)]), (1, Blk.mk [Lf.int iK, Lf.str, Lf.int iK, Lf.int iK] [X.d (D.int iK x10), X.d (D.str s11), X.d (D.int iK x12), X.d
  (D.int iK x13)])] [] 2 0 0 []) (finK (Γ true) rc false (shp 46) (SFunc.results sf46) 0)
noncomputable def e23 (Γ : Bool → SemL) (n1 : Nat) (r0 : List (List D)) (x1 x2 x3 : Int) (s4 : ByteArray) (r5 r6 r7 : List (List D)) (x8 x9 : Int) : Option Out := runF Γ shp rc false (shp 23) sf23 n1 [V.one (X.ptr 0 0), V.one (X.ptr 1 0)] [([Lf.lst 5, Lf.int iK], [X.d (D.list 5 r0), X.d (D.int iK
  x1)]), ([Lf.int iK, Lf.int iK, Lf.str, Lf.lst 1, Lf.lst 1, Lf.lst 8, Lf.int iK, Lf.int iK], [X.d (D.int iK x2), X.d (D.int iK x3), X.d
  (D.str s4), X.d (D.list 1 r5), X.d (D.list 1 r6), X.d (D.list 8 r7), X.d (D.int iK x8), X.d (D.int iK x9)])]
noncomputable def q22_1_v1 (Γ : Bool → SemL) (n1 : Nat) (z2 z3 : Int) (z4 : ByteArray) (z5 z6 z7 : List (List D)) (z8 z9 x0 x1 : Int) (s2 : ByteArray) (r3 r4 r5 : List (List D)) (x6 x7 x8 : Int) (s9 : ByteArray) (x10 x11 : Int) : Option Out := Jn (Γ
  false) shp n1 j22_1 (St.mk [(4, V.one (X.ptr 1 0))] [(0, Blk.mk [Lf.int iK, Lf.int iK, Lf.str, Lf.lst 1, Lf.lst 1, Lf.lst 8, Lf.int iK, Lf.int iK] [X.d
  (D.int iK x0), X.d (D.int iK x1), X.d (D.str s2), X.d (D.list 1 r3), X.d (D.list 1 r4), X.d (D.list 8 r5), X.d (D.int iK x6), X.d (D.int iK x7)]), (1,
  Blk.mk [Lf.int iK, Lf.str, Lf.int iK, Lf.int iK] [X.d (D.int iK x8), X.d (D.str s9), X.d (D.int iK x10), X.d (D.int iK x11)])] [] 2 0 1
  [(48, [V.one (X.ptr 1 0)])]) (finK (Γ true) rc false (shp 22) (SFunc.results sf22) (List.length [([Lf.int iK, Lf.int iK, Lf.str, Lf.lst 1, Lf.lst 1, Lf.lst 8, Lf.int
  iK, Lf.int iK], [X.d (D.int iK z2), X.d (D.int iK z3), X.d (D.str z4), X.d (D.list 1 z5), X.d (D.list 1 z6), X.d (D.list 8 z7), X.d (D.int iK
  z8), X.d (D.int iK z9)])]))
noncomputable def e45 (Γ : Bool → SemL) (n1 : Nat) (r0 : List (List D)) (x1 : Int) : Option Out := runF Γ shp rc false (shp 45) sf45 n1 [V.one (X.ptr 0 0)] [([Lf.lst 5, Lf.int iK],
  [X.d (D.list 5 r0), X.d (D.int iK x1)])]
noncomputable def e74 (Γ : Bool → SemL) (n1 : Nat) (x0 : Int) (r1 : List (List D)) (x2 x3 : Int) : Option Out := runF Γ shp rc false (shp 74) sf74 n1 [V.agg [X.d (D.int iK
  x0), X.d (D.list 2 r1)], V.one (X.d (D.int iK x2)), V.one (X.d (D.int iK x3))] []
noncomputable def q46_1 (Γ : Bool → SemL) (n1 : Nat) (n2 : Nat) (r0 : List (List D)) (x1 x2 : Int) (r3 r4 : List (List D)) (x5 x6 : Int) (s7 : ByteArray) (r8 r9 r10 : List (List D)) (x11 x12 x13 : Int) (s14 : ByteArray) (x15 x16 : Int) : Option Out := Jn (Γ false) shp n1 j46_1 (St.mk
  [(1, V.one (X.ptr 0 0)), (2, V.one (X.ptr 1 0)), (3, V.one (X.fn 74 [])), (15, V.one (X.d (D.list 5 r0))), (16, V.one (X.d (D.int iK x1))), (17, V.one (X.d (D.int iK
  x2)))] [(0, Blk.mk [Lf.lst 5, Lf.lst 14, Lf.int iK, Lf.int iK, Lf.str, Lf.lst 1, Lf.lst 1, Lf.lst 8, Lf.int iK, Lf.int iK] [X.d (D.list 5 r3), X.d
  (D.list 14 r4), X.d (D.int iK x5), X.d (D.int iK x6), X.d (D.str s7), X.d (D.list 1 r8), X.d (D.list 1 r9), X.d (D.list 8 r10), X.d (D.int iK x11), X.d (D.int
  iK x12)]), (1, Blk.mk [Lf.int iK, Lf.str, Lf.int iK, Lf.int iK] [X.d (D.int iK x13), X.d (D.str s14), X.d (D.int iK x15), X.d (D.int
  iK x16)])] [] 2 0 0 []) (kLoop (loopK (Γ false) shp n1) [1, 2, 3, 15, 16, 17] lb46_0 (kBlk 0 (kSeq (some [1, 2, 3]) (fun s K => Jn (Γ false) shp n2 j46_2 s K) (finK (Γ true) rc
  false (shp 46) (SFunc.results sf46) 0))))
noncomputable def l46_1 (n0 : Nat) (Γ : Bool → SemL) (n2 : Nat) (r0 : List (List D)) (x1 x2 : Int) (r3 r4 : List (List D)) (x5 x6 : Int) (s7 : ByteArray) (r8 r9 r10 : List (List D)) (x11 x12 x13 : Int) (s14 : ByteArray) (x15 x16 : Int) : Option Out := loopK (Γ false) shp n0 [1, 2, 3,
  35, 36, 37] lb46_1 (St.mk [(1, V.one (X.ptr 0 0)), (2, V.one (X.ptr 1 0)), (3, V.one (X.fn 74 [])), (35, V.one (X.d (D.list 14 r0))), (36, V.one (X.d (D.int iK x1))), (37, V.one
  (X.d (D.int iK x2)))] [(0, Blk.mk [Lf.lst 5, Lf.lst 14, Lf.int iK, Lf.int iK, Lf.str, Lf.lst 1, Lf.lst 1, Lf.lst 8, Lf.int iK, Lf.int iK] [X.d
  (D.list 5 r3), X.d (D.list 14 r4), X.d (D.int iK x5), X.d (D.int iK x6), X.d (D.str s7), X.d (D.list 1 r8), X.d (D.list 1 r9), X.d (D.list 8 r10), X.d (D.int iK
  x11), X.d (D.int iK x12)]), (1, Blk.mk [Lf.int iK, Lf.str, Lf.int iK, Lf.int iK] [X.d (D.int iK x13), X.d (D.str s14), X.d (D.int iK
  x15), X.d (D.int iK x16)])] [] 2 0 0 []) (kBlk 2 (kSeq (some [1, 2]) (fun s K => Jn (Γ false) shp n2 j46_9 s K) (finK (Γ true) rc false (shp 46) (SFunc.results sf46) 0)))
noncomputable def l45_0 (n0 : Nat) (Γ : Bool → SemL) (n2 : Nat) (z3 : List (List D)) (z4 : Int) (r0 : List (List D)) (x1 x2 x3 : Int) (s4 : ByteArray) (x5 x6 x7 x8 : Int) (s9 : ByteArray) (x10 x11 : Int) : Option Out := loopK (Γ false) shp n0 [0, 2, 3] lb45_0 (St.mk [(0, V.one (X.ptr 0 0)), (2, V.one (X.ptr 1 0)), (3, V.one
  (X.ptr 2 0))] [(0, Blk.mk [Lf.lst 5, Lf.int iK] [X.d (D.list 5 r0), X.d (D.int iK x1)]), (1, Blk.mk [Lf.lst 5, Lf.lst 14, Lf.int iK, Lf.int iK, Lf.str,
  Lf.lst 1, Lf.lst 1, Lf.lst 8, Lf.int iK, Lf.int iK] [X.nilL 5, X.nilL 14, X.d (D.int iK x2), X.d (D.int iK x3), X.d (D.str s4), X.nilL 1, X.nilL 1,
  X.nilL 8, X.d (D.int iK x5), X.d (D.int iK x6)]), (2, Blk.mk [Lf.lst 5, Lf.lst 14, Lf.int iK, Lf.int iK, Lf.str, Lf.lst 1, Lf.lst 1, Lf.lst 8, Lf.int
  iK, Lf.int iK] [X.nilL 5, X.nilL 14, X.d (D.int iK x7), X.d (D.int iK x8), X.d (D.str s9), X.nilL 1, X.nilL 1, X.nilL 8, X.d (D.int iK x10), X.d
  (D.int iK x11)])] [] 3 0 1 []) (kBlk 0 (kSeq (some [0, 2, 3]) (fun s K => Jn (Γ false) shp n2 j45_1 s K) (finK (Γ true) rc false (shp 45) (SFunc.results sf45) (List.length
  [([Lf.lst 5, Lf.int iK], [X.d (D.list 5 z3), X.d (D.int iK z4)])]))))
noncomputable def e75 (Γ : Bool → SemL) (n1 : Nat) (x0 : Int) (r1 : List (List D)) : Option Out := runF Γ shp rc false (shp 75) sf75 n1 [V.agg [X.d (D.int iK x0), X.d (D.list 2 r1)]]
  []
noncomputable def q74_0 (Γ : Bool → SemL) (n1 : Nat) (x0 : Int) (s1 : ByteArray) (x2 x3 : Int) : Option Out := Jn (Γ false) shp n1 j74_0 (St.mk [(6, V.one (X.ptr 0 0))] [(0, Blk.mk
  [Lf.int iK, Lf.str, Lf.int iK, Lf.int iK] [X.d (D.int iK x0), X.d (D.str s1), X.d (D.int iK x2), X.d (D.int iK x3)])] [] 1 0 0 [])
  (finK (Γ true) rc false (shp 74) (SFunc.results sf74) 0)
noncomputable def q46_3 (Γ : Bool → SemL) (n1 : Nat) (n2 : Nat) (r0 : List (List D)) (x1 x2 : Int) (r3 r4 : List (List D)) (x5 x6 : Int) (s7 : ByteArray) (r8 r9 r10 : List (List D)) (x11 x12 x13 : Int) (s14 : ByteArray) (x15 x16 : Int) : Option Out := Jn (Γ false) shp n1 j46_3 (St.mk
  [(1, V.one (X.ptr 0 0)), (2, V.one (X.ptr 1 0)), (3, V.one (X.fn 74 [])), (35, V.one (X.d (D.list 14 r0))), (36, V.one (X.d (D.int iK x1))), (37, V.one (X.d (D.int iK
  x2)))] [(0, Blk.mk [Lf.lst 5, Lf.lst 14, Lf.int iK, Lf.int iK, Lf.str, Lf.lst 1, Lf.lst 1, Lf.lst 8, Lf.int iK, Lf.int iK] [X.d (D.list 5 r3), X.d
  (D.list 14 r4), X.d (D.int iK x5), X.d (D.int iK x6), X.d (D.str s7), X.d (D.list 1 r8), X.d (D.list 1 r9), X.d (D.list 8 r10), X.d (D.int iK x11), X.d (D.int
  iK x12)]), (1, Blk.mk [Lf.int iK, Lf.str, Lf.int iK, Lf.int iK] [X.d (D.int iK x13), X.d (D.str s14), X.d (D.int iK x15), X.d (D.int
  iK x16)])] [] 2 0 0 []) (kLoop (loopK (Γ false) shp n1) [1, 2, 3, 35, 36, 37] lb46_1 (kBlk 2 (kSeq (some [1, 2]) (fun s K => Jn (Γ false) shp n2 j46_9 s K) (finK (Γ true) rc false
  (shp 46) (SFunc.results sf46) 0))))
noncomputable def q46_9 (Γ : Bool → SemL) (n1 : Nat) (r0 r1 : List (List D)) (x2 x3 : Int) (s4 : ByteArray) (r5 r6 r7 : List (List D)) (x8 x9 x10 : Int) (s11 : ByteArray) (x12 x13 : Int) : Option Out := Jn (Γ false) shp n1 j46_9 (St.mk [(1, V.one (X.ptr 0 0)), (2, V.one (X.ptr 1 0))] [(0,
  Blk.mk [Lf.lst 5, Lf.lst 14, Lf.int iK, Lf.int iK, Lf.str, Lf.lst 1, Lf.lst 1, Lf.lst 8, Lf.int iK, Lf.int iK] [X.d (D.list 5 r0), X.d (D.list 14 r1),
  X.d (D.int iK x2), X.d (D.int iK x3), X.d (D.str s4), X.d (D.list 1 r5), X.d (D.list 1 r6), X.d (D.list 8 r7), X.d (D.int iK x8), X.d (D.int iK x9)]),
  (1, Blk.mk [Lf.int iK, Lf.str, Lf.int iK, Lf.int iK] [X.d (D.int iK x10), X.d (D.str s11), X.d (D.int iK x12), X.d (D.int iK x13)])] []
  2 0 0 []) (finK (Γ true) rc false (shp 46) (SFunc.results sf46) 0)
noncomputable def e51 (Γ : Bool → SemL) (n1 : Nat) (s0 : ByteArray) (r1 : List (List D)) (x2 : Int) : Option Out := runF Γ shp rc false (shp 51) sf51 n1 [V.one (X.ptr 0 0), V.one (X.d (D.str
  s0))] [([Lf.lst 5, Lf.int iK], [X.d (D.list 5 r1), X.d (D.int iK x2)])]
noncomputable def e52 (Γ : Bool → SemL) (n1 : Nat) (x0 x1 : Int) (s2 : ByteArray) (x3 x4 x5 : Int) : Option Out := runF Γ shp rc false (shp 52) sf52 n1 [V.one (X.d
  (D.int iK x0)), V.agg [X.d (D.int iK x1), X.d (D.str s2), X.d (D.int iK x3), X.d (D.int iK x4), X.d (D.int iK x5)]] []
noncomputable def e53 (Γ : Bool → SemL) (n1 : Nat) (x0 : Int) (r1 : List (List D)) (x2 : Int) : Option Out := runF Γ shp rc false (shp 53) sf53 n1 [V.one (X.ptr 0 0), V.one (X.d (D.int
  iK x0))] [([Lf.lst 5, Lf.int iK], [X.d (D.list 5 r1), X.d (D.int iK x2)])]
noncomputable def e54 (Γ : Bool → SemL) (n1 : Nat) (s0 : ByteArray) (r1 : List (List D)) (x2 : Int) : Option Out := runF Γ shp rc false (shp 54) sf54 n1 [V.one (X.ptr 0 0), V.one (X.d (D.str
  s0))] [([Lf.lst 5, Lf.int iK], [X.d (D.list 5 r1), X.d (D.int iK x2)])]
noncomputable def e55 (Γ : Bool → SemL) (n1 : Nat) (r0 : List (List D)) (x1 : Int) : Option Out := runF Γ shp rc false (shp 55) sf55 n1 [V.one (X.ptr 0 0)] [([Lf.lst 5, Lf.int iK],
  [X.d (D.list 5 r0), X.d (D.int iK x1)])]
noncomputable def q45_0 (Γ : Bool → SemL) (n1 : Nat) (n2 : Nat) (z3 : List (List D)) (z4 : Int) (r0 : List (List D)) (x1 x2 x3 : Int) (s4 : ByteArray) (x5 x6 x7 x8 : Int) (s9 : ByteArray) (x10 x11 : Int) : Option Out := Jn (Γ false) shp n1 j45_0 (St.mk [(0, V.one (X.ptr 0 0)), (2, V.one (X.ptr 1 0)), (3, V.one (X.ptr 2 0))] [(0,
  Blk.mk [Lf.lst 5, Lf.int iK] [X.d (D.list 5 r0), X.d (D.int iK x1)]), (1, Blk.mk [Lf.lst 5, Lf.lst 14, Lf.int iK, Lf.int iK, Lf.str, Lf.lst 1, Lf.lst 1,
  Lf.lst 8, Lf.int iK, Lf.int iK] [X.nilL 5, X.nilL 14, X.d (D.int iK x2), X.d (D.int iK x3), X.d (D.str s4), X.nilL 1, X.nilL 1, X.nilL 8, X.d (D.int
  iK x5), X.d (D.int iK x6)]), (2, Blk.mk [Lf.lst 5, Lf.lst 14, Lf.int iK, Lf.int iK, Lf.str, Lf.lst 1, Lf.lst 1, Lf.lst 8, Lf.int iK, Lf.int
  iK] [X.nilL 5, X.nilL 14, X.d (D.int iK x7), X.d (D.int iK x8), X.d (D.str s9), X.nilL 1, X.nilL 1, X.nilL 8, X.d (D.int iK x10), X.d (D.int iK
  x11)])] [] 3 0 1 []) (kLoop (loopK (Γ false) shp n1) [0, 2, 3] lb45_0 (kBlk 0 (kSeq (some [0, 2, 3]) (fun s K => Jn (Γ false) shp n2 j45_1 s K) (finK (Γ true) rc false (shp 45)
  (SFunc.results sf45) (List.length [([Lf.lst 5, Lf.int iK], [X.d (D.list 5 z3), X.d (D.int iK z4)])])))))
noncomputable def q45_1 (Γ : Bool → SemL) (n1 : Nat) (z2 : List (List D)) (z3 : Int) (r0 : List (List D)) (x1 x2 x3 : Int) (s4 : ByteArray) (x5 x6 x7 x8 : Int) (s9 : ByteArray) (x10 x11 : Int) : Option Out := Jn (Γ false) shp n1 j45_1 (St.mk [(0, V.one (X.ptr 0 0)), (2, V.one (X.ptr 1 0)), (3, V.one (X.ptr 2 0))] [(0, Blk.mk
  [Lf.lst 5, Lf.int iK] [X.d (D.list 5 r0), X.d (D.int iK x1)]), (1, Blk.mk [Lf.lst 5, Lf.lst 14, Lf.int iK, Lf.int iK, Lf.str, Lf.lst 1, Lf.lst 1, Lf.lst
  8, Lf.int iK, Lf.int iK] [X.nilL 5, X.nilL 14, X.d (D.int iK x2), X.d (D.int iK x3), X.d (D.str s4), X.nilL 1, X.nilL 1, X.nilL 8, X.d (D.int iK
  x5), X.d (D.int iK x6)]), (2, Blk.mk [Lf.lst 5, Lf.lst 14, Lf.int iK, Lf.int iK, Lf.str, Lf.lst 1, Lf.lst 1, Lf.lst 8, Lf.int iK, Lf.int iK]
  [X.nilL 5, X.nilL 14, X.d (D.int iK x7), X.d (D.int iK x8), X.d (D.str s9), X.nilL 1, X.nilL 1, X.nilL 8, X.d (D.int iK x10), X.d (D.int iK x11)])] [] 3
  0 1 []) (finK (Γ true) rc false (shp 45) (SFunc.results sf45) (List.length [([Lf.lst 5, Lf.int iK], [X.d (D.list 5 z2), X.d (D.int iK z3)])]))
noncomputable def l75_0 (n0 : Nat) (Γ : Bool → SemL) (n2 : Nat) (x0 : Int) (r1 : List (List D)) (x2 x3 : Int) : Option Out := loopK (Γ false) shp n0 [3, 7, 8, 9] lb75_0 (St.mk [(3,
  V.one (X.d (D.int iK x0))), (7, V.one (X.d (D.list 2 r1))), (8, V.one (X.d (D.int iK x2))), (9, V.one (X.d (D.int iK x3)))] [] [] 0 0 0 []) (kBlk 0 (kSeq (some
  [3]) (fun s K => Jn (Γ false) shp n2 j75_2 s K) (finK (Γ true) rc false (shp 75) (SFunc.results sf75) 0)))
noncomputable def l46_2 (n0 : Nat) (Γ : Bool → SemL) (n2 : Nat) (n3 : Nat) (r0 : List (List D)) (x1 x2 : Int) (y3 : D) (x4 x5 : Int) (r6 r7 : List (List D))
  (x8 x9 : Int) (s10 : ByteArray) (r11 r12 r13 : List (List D)) (x14 x15 x16 : Int) (s17 : ByteArray) (x18 x19 : Int) (y20
  : D) (y21 : D) (y22 : D) (y23 : D) (y24 : D) (y25 : D) (y26 : D) (y27 : D) (y28 : D) (y29 : D) (y30 : D) (y31 : D) (y32 : D) (y33 : D) : Option Out := loopK (Γ false) shp n0 [1, 2, 3, 8,
  35, 36, 37, 42, 43, 44] lb46_2 (St.mk [(1, V.one (X.ptr 0 0)), (2, V.one (X.ptr 1 0)), (3, V.one (X.fn 74 [])), (8, V.one (X.ptr 2 0)), (35, V.one (X.d (D.list 14 r0))), (36, V.one (X.d
  (D.int iK x1))), (37, V.one (X.d (D.int iK x2))), (42, V.one (X.d y3)), (43, V.one (X.d (D.int iK x4))), (44, V.one (X.d (D.int iK x5)))] [(0, Blk.mk
  [Lf.lst 5, Lf.lst 14, Lf.int iK, Lf.int iK, Lf.str, Lf.lst 1, Lf.lst 1, Lf.lst 8, Lf.int iK, Lf.int iK] [X.d (D.list 5 r6), X.d (D.list 14 r7), X.d
  (D.int iK x8), X.d (D.int iK x9), X.d (D.str s10), X.d (D.list 1 r11), X.d (D.list 1 r12), X.d (D.list 8 r13), X.d (D.int iK x14), X.d (D.int iK x15)]),
  (1, Blk.mk [Lf.int iK, Lf.str, Lf.int iK, Lf.int iK] [X.d (D.int iK x16), X.d (D.str s17), X.d (D.int iK x18), X.d (D.int iK x19)]),
  (2, Blk.mk [Lf.str, Lf.lst 5, Lf.int iK, Lf.lst 2, Lf.int iK, Lf.int iK, Lf.str, Lf.lst 1, Lf.lst 1, Lf.lst 8, Lf.int iK, Lf.int iK, Lf.int
  iK, Lf.int iK] [X.d y20, X.d y21, X.d y22, X.d y23, X.d y24, X.d y25, X.d y26, X.d y27, X.d y28, X.d y29, X.d y30, X.d y31, X.d y32, X.d y33])] [] 3 0 0 []) (kBlk 4 (kSeq
  (some [1, 2, 3, 8, 35, 36, 37]) (fun s K => Jn (Γ false) shp n2 j46_6 s K) (kBlk 3 (kSeq (some [1, 2, 3, 35, 36, 37]) (fun s K => Jn (Γ false) shp n2 j46_8 s K) (kLoop (loopK (Γ false) shp
  n2) [1, 2, 3, 35, 36, 37] lb46_1 (kBlk 2 (kSeq (some [1, 2]) (fun s K => Jn (Γ false) shp n3 j46_9 s K) (finK (Γ true) rc false (shp 46) (SFunc.results sf46) 0))))))))
noncomputable def e80 (Γ : Bool → SemL) (n1 : Nat) (s0 : ByteArray) (r1 : List (List D)) (x2 : Int) : Option Out := runF Γ shp rc false (shp 80) sf80 n1 [V.one (X.ptr 0 0), V.one (X.d (D.str
  s0))] [([Lf.lst 5, Lf.int iK], [X.d (D.list 5 r1), X.d (D.int iK x2)])]
noncomputable def q51_0 (Γ : Bool → SemL) (n1 : Nat) (z2 : List (List D)) (z3 : Int) (r0 : List (List D)) (x1 : Int) : Option Out := Jn (Γ false) shp n1 j51_0 (St.mk [] [(0, Blk.mk [Lf.lst 5,
  Lf.int iK] [X.d (D.list 5 r0), X.d (D.int iK x1)])] [] 1 0 1 []) (finK (Γ true) rc false (shp 51) (SFunc.results sf51) (List.length [([Lf.lst 5, Lf.int iK], [X.d
  (D.list 5 z2), X.d (D.int iK z3)])]))
noncomputable def q53_0 (Γ : Bool → SemL) (n1 : Nat) (z2 : List (List D)) (z3 : Int) (r0 : List (List D)) (x1 x2 : Int) (s3 : ByteArray) (x4 x5 x6 x7 : Int)
  (s8 : ByteArray) (x9 x10 x11 : Int) : Option Out := Jn (Γ false) shp n1 j53_0 (St.mk [(0, V.one (X.ptr 0 0)), (4, V.one (X.ptr 1 0)), (5, V.one (X.ptr 2 0))] [(0, Blk.mk
  [Lf.lst 5, Lf.int iK] [X.d (D.list 5 r0), X.d (D.int iK x1)]), (1, Blk.mk [Lf.int iK, Lf.str, Lf.int iK, Lf.int iK, Lf.int iK] [X.d
  (D.int iK x2), X.d (D.str s3), X.d (D.int iK x4), X.d (D.int iK x5), X.d (D.int iK x6)]), (2, Blk.mk [Lf.int iK, Lf.str, Lf.int iK,
  Lf.int iK, Lf.int iK] [X.d (D.int iK x7), X.d (D.str s8), X.d (D.int iK x9), X.d (D.int iK x10), X.d (D.int iK x11)])] [] 3 0 1 [])
  (finK (Γ true) rc false (shp 53) (SFunc.results sf53) (List.length [([Lf.lst 5, Lf.int iK], [X.d (D.list 5 z2), X.d (D.int iK z3)])]))
noncomputable def e72 (Γ : Bool → SemL) (n1 : Nat) (r0 : List (List D)) (x1 : Int) : Option Out := runF Γ shp rc false (shp 72) sf72 n1 [V.one (X.ptr 0 0)] [([Lf.lst 5, Lf.int iK],
  [X.d (D.list 5 r0), X.d (D.int iK x1)])]
noncomputable def l45_0_v1 (n0 : Nat) (Γ : Bool → SemL) (n2 : Nat) (z3 : List (List D)) (z4 : Int) (r0 : List (List D)) (x1 x2 x3 : Int) (s4 : ByteArray) (x5 x6 : Int)
  (r7 : List (List D)) (x8 x9 : Int) (s10 : ByteArray) (x11 x12 : Int) : Option Out := loopK (Γ false) shp n0 [0, 2, 3] lb45_0 (St.mk [(0, V.one (X.ptr 0 0)), (2, V.one (X.ptr
  1 0)), (3, V.one (X.ptr 2 0))] [(0, Blk.mk [Lf.lst 5, Lf.int iK] [X.d (D.list 5 r0), X.d (D.int iK x1)]), (1, Blk.mk [Lf.lst 5, Lf.lst 14, Lf.int iK, Lf.int
  iK, Lf.str, Lf.lst 1, Lf.lst 1, Lf.lst 8, Lf.int iK, Lf.int iK] [X.nilL 5, X.nilL 14, X.d (D.int iK x2), X.d (D.int iK x3), X.d (D.str s4),
  X.nilL 1, X.nilL 1, X.nilL 8, X.d (D.int iK x5), X.d (D.int iK x6)]), (2, Blk.mk [Lf.lst 5, Lf.lst 14, Lf.int iK, Lf.int iK, Lf.str, Lf.lst 1, Lf.lst 1,
  Lf.lst 8, Lf.int iK, Lf.int iK] [X.own 0 74 5 r7, X.nilL 14, X.d (D.int iK x8), X.d (D.int iK x9), X.d (D.str s10), X.nilL 1, X.nilL 1, X.nilL 8, X.d
  (D.int iK x11), X.d (D.int iK x12)])] [0] 3 1 1 []) (kBlk 0 (kSeq (some [0, 2, 3]) (fun s K => Jn (Γ false) shp n2 j45_1 s K) (finK (Γ true) rc false (shp 45)
  (SFunc.results sf45) (List.length [([Lf.lst 5, Lf.int iK], [X.d (D.list 5 z3), X.d (D.int iK z4)])]))))
noncomputable def l45_1 (n0 : Nat) (Γ : Bool → SemL) (n2 : Nat) (z3 : List (List D)) (z4 : Int) (r0 : List (List D)) (x1 x2 x3 : Int) (s4 : ByteArray) (x5 x6 x7 x8 : Int) (s9 : ByteArray) (x10 x11 : Int) : Option Out := loopK (Γ false) shp n0 [0, 2, 3] lb45_1 (St.mk [(0, V.one (X.ptr 0 0)), (2, V.one (X.ptr 1 0)), (3, V.one
  (X.ptr 2 0))] [(0, Blk.mk [Lf.lst 5, Lf.int iK] [X.d (D.list 5 r0), X.d (D.int iK x1)]), (1, Blk.mk [Lf.lst 5, Lf.lst 14, Lf.int iK, Lf.int iK, Lf.str,
  Lf.lst 1, Lf.lst 1, Lf.lst 8, Lf.int iK, Lf.int iK] [X.nilL 5, X.nilL 14, X.d (D.int iK x2), X.d (D.int iK x3), X.d (D.str s4), X.nilL 1, X.nilL 1,
  X.nilL 8, X.d (D.int iK x5), X.d (D.int iK x6)]), (2, Blk.mk [Lf.lst 5, Lf.lst 14, Lf.int iK, Lf.int iK, Lf.str, Lf.lst 1, Lf.lst 1, Lf.lst 8, Lf.int
  iK, Lf.int iK] [X.nilL 5, X.nilL 14, X.d (D.int iK x7), X.d (D.int iK x8), X.d (D.str s9), X.nilL 1, X.nilL 1, X.nilL 8, X.d (D.int iK x10), X.d
  (D.int iK x11)])] [] 3 0 1 []) (kBlk 2 (kSeq (some [0, 2, 3]) (fun s K => Jn (Γ false) shp n2 j45_3 s K) (finK (Γ true) rc false (shp 45) (SFunc.results sf45) (List.length
  [([Lf.lst 5, Lf.int iK], [X.d (D.list 5 z3), X.d (D.int iK z4)])]))))
noncomputable def q75_0 (Γ : Bool → SemL) (n1 : Nat) (n2 : Nat) (x0 : Int) (r1 : List (List D)) (x2 x3 : Int) : Option Out := Jn (Γ false) shp n1 j75_0 (St.mk [(3, V.one (X.d (D.int
  iK x0))), (7, V.one (X.d (D.list 2 r1))), (8, V.one (X.d (D.int iK x2))), (9, V.one (X.d (D.int iK x3)))] [] [] 0 0 0 []) (kLoop (loopK (Γ false) shp n1) [3, 7,
  8, 9] lb75_0 (kBlk 0 (kSeq (some [3]) (fun s K => Jn (Γ false) shp n2 j75_2 s K) (finK (Γ true) rc false (shp 75) (SFunc.results sf75) 0))))
noncomputable def q75_2 (Γ : Bool → SemL) (n1 : Nat) (x0 : Int) : Option Out := Jn (Γ false) shp n1 j75_2 (St.mk [(3, V.one (X.d (D.int iK x0)))] [] [] 0 0 0 []) (finK (Γ true) rc
  false (shp 75) (SFunc.results sf75) 0)
noncomputable def q46_4 (Γ : Bool → SemL) (n1 : Nat) (n2 : Nat) (n3 : Nat) (r0 : List (List D)) (x1 x2 : Int) (y3 : D) (x4 x5 : Int) (r6 r7 : List (List D))
  (x8 x9 : Int) (s10 : ByteArray) (r11 r12 r13 : List (List D)) (x14 x15 x16 : Int) (s17 : ByteArray) (x18 x19 : Int) (y20
  : D) (y21 : D) (y22 : D) (y23 : D) (y24 : D) (y25 : D) (y26 : D) (y27 : D) (y28 : D) (y29 : D) (y30 : D) (y31 : D) (y32 : D) (y33 : D) : Option Out := Jn (Γ false) shp n1 j46_4 (St.mk [(1,
  V.one (X.ptr 0 0)), (2, V.one (X.ptr 1 0)), (3, V.one (X.fn 74 [])), (8, V.one (X.ptr 2 0)), (35, V.one (X.d (D.list 14 r0))), (36, V.one (X.d (D.int iK x1))), (37, V.one (X.d
  (D.int iK x2))), (42, V.one (X.d y3)), (43, V.one (X.d (D.int iK x4))), (44, V.one (X.d (D.int iK x5)))] [(0, Blk.mk [Lf.lst 5, Lf.lst 14, Lf.int iK,
  Lf.int iK, Lf.str, Lf.lst 1, Lf.lst 1, Lf.lst 8, Lf.int iK, Lf.int iK] [X.d (D.list 5 r6), X.d (D.list 14 r7), X.d (D.int iK x8), X.d (D.int iK
  x9), X.d (D.str s10), X.d (D.list 1 r11), X.d (D.list 1 r12), X.d (D.list 8 r13), X.d (D.int iK x14), X.d (D.int iK x15)]), (1, Blk.mk [Lf.int iK, Lf.str, Lf.int
  iK, Lf.int iK] [X.d (D.int iK x16), X.d (D.str s17), X.d (D.int iK x18), X.d (D.int iK x19)]), (2, Blk.mk [Lf.str, Lf.lst 5, Lf.int iK,
  Lf.lst 2, Lf.int iK, Lf.int iK, Lf.str, Lf.lst 1, Lf.lst 1, Lf.lst 8, Lf.int iK, Lf.int iK, Lf.int iK, Lf.int iK] [X.d y20, X.d y21,
  X.d y22, X.d y23, X.d y24, X.d y25, X.d y26, X.d y27, X.d y28, X.d y29, X.d y30, X.d y31, X.d y32, X.d y33])] [] 3 0 0 []) (kLoop (loopK (Γ false) shp n1) [1, 2, 3, 8, 35, 36, 37, 42, 43,
  44] lb46_2 (kBlk 4 (kSeq (some [1, 2, 3, 8, 35, 36, 37]) (fun s K => Jn (Γ false) shp n2 j46_6 s K) (kBlk 3 (kSeq (some [1, 2, 3, 35, 36, 37]) (fun s K => Jn (Γ false) shp n2 j46_8 s K)
  (kLoop (loopK (Γ false) shp n2) [1, 2, 3, 35, 36, 37] lb46_1 (kBlk 2 (kSeq (some [1, 2]) (fun s K => Jn (Γ false) shp n3 j46_9 s K) (finK (Γ true) rc false (shp 46) (SFunc.results sf46)
  0)))))))))
noncomputable def q46_6 (Γ : Bool → SemL) (n1 : Nat) (n2 : Nat) (r0 : List (List D)) (x1 x2 : Int) (r3 r4 : List (List D)) (x5 x6 : Int) (s7 : ByteArray) (r8 r9 r10 : List (List D)) (x11 x12 x13 : Int) (s14 : ByteArray) (x15 x16 : Int) (y17 : D) (y18 : D) (y19 : D) (y20 : D) (y21 : D)
  (y22 : D) (y23 : D) (y24 : D) (y25 : D) (y26 : D) (y27 : D) (y28 : D) (y29 : D) (y30 : D) : Option Out := Jn (Γ false) shp n1 j46_6 (St.mk [(1, V.one (X.ptr 0 0)), (2, V.one (X.ptr 1 0)),
  (3, V.one (X.fn 74 [])), (8, V.one (X.ptr 2 0)), (35, V.one (X.d (D.list 14 r0))), (36, V.one (X.d (D.int iK x1))), (37, V.one (X.d (D.int iK x2)))] [(0, Blk.mk [Lf.lst 5,
  Lf.lst 14, Lf.int iK, Lf.int iK, Lf.str, Lf.lst 1, Lf.lst 1, Lf.lst 8, Lf.int iK, Lf.int iK] [X.d (D.list 5 r3), X.d (D.list 14 r4), X.d (D.int
  iK x5), X.d (D.int iK x6), X.d (D.str s7), X.d (D.list 1 r8), X.d (D.list 1 r9), X.d (D.list 8 r10), X.d (D.int iK x11), X.d (D.int iK x12)]), (1, Blk.mk
  [Lf.int iK, Lf.str, Lf.int iK, Lf.int iK] [X.d (D.int iK x13), X.d (D.str s14), X.d (D.int iK x15), X.d (D.int iK x16)]), (2, Blk.mk
  [Lf.str, Lf.lst 5, Lf.int iK, Lf.lst 2, Lf.int iK, Lf.int iK, Lf.str, Lf.lst 1, Lf.lst 1, Lf.lst 8, Lf.int iK, Lf.int iK, Lf.int iK,
  Lf.int iK] [X.d y17, X.d y18, X.d y19, X.d y20, X.d y21, X.d y22, X.d y23, X.d y24, X.d y25, X.d y26, X.d y27, X.d y28, X.d y29, X.d y30])] [] 3 0 0 []) (kBlk 3 (kSeq (some [1, 2,
  3, 35, 36, 37]) (fun s K => Jn (Γ false) shp n1 j46_8 s K) (kLoop (loopK (Γ false) shp n1) [1, 2, 3, 35, 36, 37] lb46_1 (kBlk 2 (kSeq (some [1, 2]) (fun s K => Jn (Γ false) shp n2 j46_9 s
  K) (finK (Γ true) rc false (shp 46) (SFunc.results sf46) 0))))))
noncomputable def e81 (Γ : Bool → SemL) (n1 : Nat) (r0 : List (List D)) (x1 : Int) : Option Out := runF Γ shp rc false (shp 81) sf81 n1 [V.one (X.ptr 0 0)] [([Lf.lst 5, Lf.int iK],
  [X.d (D.list 5 r0), X.d (D.int iK x1)])]
noncomputable def e90 (Γ : Bool → SemL) (n1 : Nat) (r0 : List (List D)) (x1 : Int) : Option Out := runF Γ shp rc false (shp 90) sf90 n1 [V.one (X.ptr 0 0)] [([Lf.lst 5, Lf.int iK],
  [X.d (D.list 5 r0), X.d (D.int iK x1)])]
noncomputable def q45_0_v1 (Γ : Bool → SemL) (n1 : Nat) (n2 : Nat) (z3 : List (List D)) (z4 : Int) (r0 : List (List D)) (x1 x2 x3 : Int) (s4 : ByteArray) (x5 x6 : Int)
  (r7 : List (List D)) (x8 x9 : Int) (s10 : ByteArray) (x11 x12 : Int) : Option Out := Jn (Γ false) shp n1 j45_0 (St.mk [(0, V.one (X.ptr 0 0)), (2, V.one (X.ptr 1 0)), (3,
  V.one (X.ptr 2 0))] [(0, Blk.mk [Lf.lst 5, Lf.int iK] [X.d (D.list 5 r0), X.d (D.int iK x1)]), (1, Blk.mk [Lf.lst 5, Lf.lst 14, Lf.int iK, Lf.int iK,
  Lf.str, Lf.lst 1, Lf.lst 1, Lf.lst 8, Lf.int iK, Lf.int iK] [X.nilL 5, X.nilL 14, X.d (D.int iK x2), X.d (D.int iK x3), X.d (D.str s4), X.nilL 1, X.nilL
  1, X.nilL 8, X.d (D.int iK x5), X.d (D.int iK x6)]), (2, Blk.mk [Lf.lst 5, Lf.lst 14, Lf.int iK, Lf.int iK, Lf.str, Lf.lst 1, Lf.lst 1, Lf.lst 8, Lf.int
  iK, Lf.int iK] [X.own 0 74 5 r7, X.nilL 14, X.d (D.int iK x8), X.d (D.int iK x9), X.d (D.str s10), X.nilL 1, X.nilL 1, X.nilL 8, X.d (D.int iK
  x11), X.d (D.int iK x12)])] [0] 3 1 1 []) (kLoop (loopK (Γ false) shp n1) [0, 2, 3] lb45_0 (kBlk 0 (kSeq (some [0, 2, 3]) (fun s K => Jn (Γ false) shp n2 j45_1 s K) (finK (Γ true)
  rc false (shp 45) (SFunc.results sf45) (List.length [([Lf.lst 5, Lf.int iK], [X.d (D.list 5 z3), X.d (D.int iK z4)])])))))
noncomputable def q45_1_v1 (Γ : Bool → SemL) (n1 : Nat) (z2 : List (List D)) (z3 : Int) (r0 : List (List D)) (x1 x2 x3 : Int) (s4 : ByteArray) (x5 x6 : Int) (r7 : List (List D)) (x8 x9 : Int) (s10 : ByteArray) (x11 x12 : Int) : Option Out := Jn (Γ false) shp n1 j45_1 (St.mk [(0, V.one (X.ptr 0 0)), (2, V.one (X.ptr 1 0)), (3, V.one (X.ptr
  2 0))] [(0, Blk.mk [Lf.lst 5, Lf.int iK] [X.d (D.list 5 r0), X.d (D.int iK x1)]), (1, Blk.mk [Lf.lst 5, Lf.lst 14, Lf.int iK, Lf.int iK, Lf.str, Lf.lst
  1, Lf.lst 1, Lf.lst 8, Lf.int iK, Lf.int iK] [X.nilL 5, X.nilL 14, X.d (D.int iK x2), X.d (D.int iK x3), X.d (D.str s4), X.nilL 1, X.nilL 1, X.nilL 8,
  X.d (D.int iK x5), X.d (D.int iK x6)]), (2, Blk.mk [Lf.lst 5, Lf.lst 14, Lf.int iK, Lf.int iK, Lf.str, Lf.lst 1, Lf.lst 1, Lf.lst 8, Lf.int iK,
  Lf.int iK] [X.own 0 74 5 r7, X.nilL 14, X.d (D.int iK x8), X.d (D.int iK x9), X.d (D.str s10), X.nilL 1, X.nilL 1, X.nilL 8, X.d (D.int iK x11), X.d
  (D.int iK x12)])] [0] 3 1 1 []) (finK (Γ true) rc false (shp 45) (SFunc.results sf45) (List.length [([Lf.lst 5, Lf.int iK], [X.d (D.list 5 z2), X.d (D.int iK
  z3)])]))
noncomputable def q45_2 (Γ : Bool → SemL) (n1 : Nat) (n2 : Nat) (z3 : List (List D)) (z4 : Int) (r0 : List (List D)) (x1 x2 x3 : Int) (s4 : ByteArray) (x5 x6 x7 x8 : Int) (s9 : ByteArray) (x10 x11 : Int) : Option Out := Jn (Γ false) shp n1 j45_2 (St.mk [(0, V.one (X.ptr 0 0)), (2, V.one (X.ptr 1 0)), (3, V.one (X.ptr 2 0))] [(0,
  Blk.mk [Lf.lst 5, Lf.int iK] [X.d (D.list 5 r0), X.d (D.int iK x1)]), (1, Blk.mk [Lf.lst 5, Lf.lst 14, Lf.int iK, Lf.int iK, Lf.str, Lf.lst 1, Lf.lst 1,
  Lf.lst 8, Lf.int iK, Lf.int iK] [X.nilL 5, X.nilL 14, X.d (D.int iK x2), X.d (D.int iK x3), X.d (D.str s4), X.nilL 1, X.nilL 1, X.nilL 8, X.d (D.int
  iK x5), X.d (D.int iK x6)]), (2, Blk.mk [Lf.lst 5, Lf.lst 14, Lf.int iK, Lf.int iK, Lf.str, Lf.lst 1, Lf.lst 1, Lf.lst 8, Lf.int iK, Lf.int
  iK] [X.nilL 5, X.nilL 14, X.d (D.int iK x7), X.d (D.int iK x8), X.d (D.str s9), X.nilL 1, X.nilL 1, X.nilL 8, X.d (D.int iK x10), X.d (D.int iK
  x11)])] [] 3 0 1 []) (kLoop (loopK (Γ false) shp n1) [0, 2, 3] lb45_1 (kBlk 2 (kSeq (some [0, 2, 3]) (fun s K => Jn (Γ false) shp n2 j45_3 s K) (finK (Γ true) rc false (shp 45)
  (SFunc.results sf45) (List.length [([Lf.lst 5, Lf.int iK], [X.d (D.list 5 z3), X.d (D.int iK z4)])])))))
noncomputable def q45_3 (Γ : Bool → SemL) (n1 : Nat) (z2 : List (List D)) (z3 : Int) (r0 : List (List D)) (x1 x2 x3 : Int) (s4 : ByteArray) (x5 x6 x7 x8 : Int) (s9 : ByteArray) (x10 x11 : Int) : Option Out := Jn (Γ false) shp n1 j45_3 (St.mk [(0, V.one (X.ptr 0 0)), (2, V.one (X.ptr 1 0)), (3, V.one (X.ptr 2 0))] [(0, Blk.mk
  [Lf.lst 5, Lf.int iK] [X.d (D.list 5 r0), X.d (D.int iK x1)]), (1, Blk.mk [Lf.lst 5, Lf.lst 14, Lf.int iK, Lf.int iK, Lf.str, Lf.lst 1, Lf.lst 1, Lf.lst
  8, Lf.int iK, Lf.int iK] [X.nilL 5, X.nilL 14, X.d (D.int iK x2), X.d (D.int iK x3), X.d (D.str s4), X.nilL 1, X.nilL 1, X.nilL 8, X.d (D.int iK
  x5), X.d (D.int iK x6)]), (2, Blk.mk [Lf.lst 5, Lf.lst 14, Lf.int iK, Lf.int iK, Lf.str, Lf.lst 1, Lf.lst 1, Lf.lst 8, Lf.int iK, Lf.int iK]
  [X.nilL 5, X.nilL 14, X.d (D.int iK x7), X.d (D.int iK x8), X.d (D.str s9), X.nilL 1, X.nilL 1, X.nilL 8, X.d (D.int iK x10), X.d (D.int iK x11)])] [] 3
  0 1 []) (finK (Γ true) rc false (shp 45) (SFunc.results sf45) (List.length [([Lf.lst 5, Lf.int iK], [X.d (D.list 5 z2), X.d (D.int iK z3)])]))
noncomputable def q75_1 (Γ : Bool → SemL) (n1 : Nat) (n2 : Nat) (x0 : Int) (r1 : List (List D)) (x2 x3 : Int) : Option Out := Jn (Γ false) shp n1 j75_1 (St.mk [(3, V.one (X.d (D.int
  iK x0))), (7, V.one (X.d (D.list 2 r1))), (8, V.one (X.d (D.int iK x2))), (9, V.one (X.d (D.int iK x3)))] [] [] 0 0 0 []) (kLoop (loopK (Γ false) shp n1) [3, 7,
  8, 9] lb75_0 (kBlk 0 (kSeq (some [3]) (fun s K => Jn (Γ false) shp n2 j75_2 s K) (finK (Γ true) rc false (shp 75) (SFunc.results sf75) 0))))
noncomputable def q46_5 (Γ : Bool → SemL) (n1 : Nat) (n2 : Nat) (n3 : Nat) (r0 : List (List D)) (x1 x2 : Int) (y3 : D) (x4 x5 : Int) (r6 r7 : List (List D))
  (x8 x9 : Int) (s10 : ByteArray) (r11 r12 r13 : List (List D)) (x14 x15 x16 : Int) (s17 : ByteArray) (x18 x19 : Int) (y20
  : D) (y21 : D) (y22 : D) (y23 : D) (y24 : D) (y25 : D) (y26 : D) (y27 : D) (y28 : D) (y29 : D) (y30 : D) (y31 : D) (y32 : D) (y33 : D) : Option Out := Jn (Γ false) shp n1 j46_5 (St.mk [(1,
  V.one (X.ptr 0 0)), (2, V.one (X.ptr 1 0)), (3, V.one (X.fn 74 [])), (8, V.one (X.ptr 2 0)), (35, V.one (X.d (D.list 14 r0))), (36, V.one (X.d (D.int iK x1))), (37, V.one (X.d
  (D.int iK x2))), (42, V.one (X.d y3)), (43, V.one (X.d (D.int iK x4))), (44, V.one (X.d (D.int iK x5)))] [(0, Blk.mk [Lf.lst 5, Lf.lst 14, Lf.int iK,
  Lf.int iK, Lf.str, Lf.lst 1, Lf.lst 1, Lf.lst 8, Lf.int iK, Lf.int iK] [X.d (D.list 5 r6), X.d (D.list 14 r7), X.d (D.int iK x8), X.d (D.int iK
  x9), X.d (D.str s10), X.d (D.list 1 r11), X.d (D.list 1 r12), X.d (D.list 8 r13), X.d (D.int iK x14), X.d (D.int iK x15)]), (1, Blk.mk [Lf.int iK, Lf.str, Lf.int
  iK, Lf.int iK] [X.d (D.int iK x16), X.d (D.str s17), X.d (D.int iK x18), X.d (D.int iK x19)]), (2, Blk.mk [Lf.str, Lf.lst 5, Lf.int iK,
  Lf.lst 2, Lf.int iK, Lf.int iK, Lf.str, Lf.lst 1, Lf.lst 1, Lf.lst 8, Lf.int iK, Lf.int iK, Lf.int iK, Lf.int iK] [X.d y20, X.d y21,
  X.d y22, X.d y23, X.d y24, X.d y25, X.d y26, X.d y27, X.d y28, X.d y29, X.d y30, X.d y31, X.d y32, X.d y33])] [] 3 0 0 []) (kLoop (loopK (Γ false) shp n1) [1, 2, 3, 8, 35, 36, 37, 42, 43,
  44] lb46_2 (kBlk 4 (kSeq (some [1, 2, 3, 8, 35, 36, 37]) (fun s K => Jn (Γ false) shp n2 j46_6 s K) (kBlk 3 (kSeq (some [1, 2, 3, 35, 36, 37]) (fun s K => Jn (Γ false) shp n2 j46_8 s K)
  (kLoop (loopK (Γ false) shp n2) [1, 2, 3, 35, 36, 37] lb46_1 (kBlk 2 (kSeq (some [1, 2]) (fun s K => Jn (Γ false) shp n3 j46_9 s K) (finK (Γ true) rc false (shp 46) (SFunc.results sf46)
  0)))))))))
noncomputable def q46_7 (Γ : Bool → SemL) (n1 : Nat) (n2 : Nat) (r0 : List (List D)) (x1 x2 : Int) (r3 r4 : List (List D)) (x5 x6 : Int) (s7 : ByteArray) (r8 r9 r10 : List (List D)) (x11 x12 x13 : Int) (s14 : ByteArray) (x15 x16 : Int) (y17 : D) (y18 : D) (y19 : D) (y20 : D) (y21 : D)
  (y22 : D) (y23 : D) (y24 : D) (y25 : D) (y26 : D) (y27 : D) (y28 : D) (y29 : D) (y30 : D) : Option Out := Jn (Γ false) shp n1 j46_7 (St.mk [(1, V.one (X.ptr 0 0)), (2, V.one (X.ptr 1 0)),
  (3, V.one (X.fn 74 [])), (8, V.one (X.ptr 2 0)), (35, V.one (X.d (D.list 14 r0))), (36, V.one (X.d (D.int iK x1))), (37, V.one (X.d (D.int iK x2)))] [(0, Blk.mk [Lf.lst 5,
  Lf.lst 14, Lf.int iK, Lf.int iK, Lf.str, Lf.lst 1, Lf.lst 1, Lf.lst 8, Lf.int iK, Lf.int iK] [X.d (D.list 5 r3), X.d (D.list 14 r4), X.d (D.int
  iK x5), X.d (D.int iK x6), X.d (D.str s7), X.d (D.list 1 r8), X.d (D.list 1 r9), X.d (D.list 8 r10), X.d (D.int iK x11), X.d (D.int iK x12)]), (1, Blk.mk
  [Lf.int iK, Lf.str, Lf.int iK, Lf.int iK] [X.d (D.int iK x13), X.d (D.str s14), X.d (D.int iK x15), X.d (D.int iK x16)]), (2, Blk.mk
  [Lf.str, Lf.lst 5, Lf.int iK, Lf.lst 2, Lf.int iK, Lf.int iK, Lf.str, Lf.lst 1, Lf.lst 1, Lf.lst 8, Lf.int iK, Lf.int iK, Lf.int iK,
  Lf.int iK] [X.d y17, X.d y18, X.d y19, X.d y20, X.d y21, X.d y22, X.d y23, X.d y24, X.d y25, X.d y26, X.d y27, X.d y28, X.d y29, X.d y30])] [] 3 0 0 []) (kBlk 3 (kSeq (some [1, 2,
  3, 35, 36, 37]) (fun s K => Jn (Γ false) shp n1 j46_8 s K) (kLoop (loopK (Γ false) shp n1) [1, 2, 3, 35, 36, 37] lb46_1 (kBlk 2 (kSeq (some [1, 2]) (fun s K => Jn (Γ false) shp n2 j46_9 s
  K) (finK (Γ true) rc false (shp 46) (SFunc.results sf46) 0))))))
noncomputable def q81_0 (Γ : Bool → SemL) (n1 : Nat) (z2 : List (List D)) (z3 : Int) (s0 : ByteArray) (r1 : List (List D)) (x2 x3 x4 : Int) (s5 : ByteArray) (x6 x7 x8 : Int) (s9 : ByteArray) (x10 x11 x12 : Int) : Option Out := Jn (Γ false) shp n1 j81_0 (St.mk [(0, V.one (X.ptr 0 0)), (2, V.one (X.ptr 1 0)), (3, V.one (X.ptr 2
  0)), (4, V.one (X.d (D.str s0)))] [(0, Blk.mk [Lf.lst 5, Lf.int iK] [X.d (D.list 5 r1), X.d (D.int iK x2)]), (1, Blk.mk [Lf.int iK, Lf.int iK, Lf.str,
  Lf.lst 1, Lf.lst 1, Lf.lst 8, Lf.int iK, Lf.int iK] [X.d (D.int iK x3), X.d (D.int iK x4), X.d (D.str s5), X.nilL 1, X.nilL 1, X.nilL 8, X.d (D.int
  iK x6), X.d (D.int iK x7)]), (2, Blk.mk [Lf.int iK, Lf.str, Lf.int iK, Lf.int iK, Lf.int iK] [X.d (D.int iK x8), X.d (D.str
  s9), X.d (D.int iK x10), X.d (D.int iK x11), X.d (D.int iK x12)])] [] 3 0 1 []) (finK (Γ true) rc false (shp 81) (SFunc.results sf81) (List.length [([Lf.lst 5,
  Lf.int iK], [X.d (D.list 5 z2), X.d (D.int iK z3)])]))
noncomputable def q90_0 (Γ : Bool → SemL) (n1 : Nat) (z2 : List (List D)) (z3 : Int) (r0 : List (List D)) (x1 x2 : Int) : Option Out := Jn (Γ false) shp n1 j90_0 (St.mk [(0, V.one
  (X.ptr 0 0)), (2, V.one (X.ptr 1 0))] [(0, Blk.mk [Lf.lst 5, Lf.int iK] [X.d (D.list 5 r0), X.d (D.int iK x1)]), (1, Blk.mk [Lf.int iK, Lf.lst 2] [X.d (D.int
  iK x2), X.nilL 2])] [] 2 0 1 []) (finK (Γ true) rc false (shp 90) (SFunc.results sf90) (List.length [([Lf.lst 5, Lf.int iK], [X.d (D.list 5 z2), X.d (D.int iK
  z3)])]))
noncomputable def l45_1_v1 (n0 : Nat) (Γ : Bool → SemL) (n2 : Nat) (z3 : List (List D)) (z4 : Int) (r0 : List (List D)) (x1 x2 x3 : Int) (s4 : ByteArray) (x5 x6 : Int)
  (r7 : List (List D)) (x8 x9 : Int) (s10 : ByteArray) (x11 x12 : Int) : Option Out := loopK (Γ false) shp n0 [0, 2, 3] lb45_1 (St.mk [(0, V.one (X.ptr 0 0)), (2, V.one (X.ptr
  1 0)), (3, V.one (X.ptr 2 0))] [(0, Blk.mk [Lf.lst 5, Lf.int iK] [X.d (D.list 5 r0), X.d (D.int iK x1)]), (1, Blk.mk [Lf.lst 5, Lf.lst 14, Lf.int iK, Lf.int
  iK, Lf.str, Lf.lst 1, Lf.lst 1, Lf.lst 8, Lf.int iK, Lf.int iK] [X.nilL 5, X.nilL 14, X.d (D.int iK x2), X.d (D.int iK x3), X.d (D.str s4),
  X.nilL 1, X.nilL 1, X.nilL 8, X.d (D.int iK x5), X.d (D.int iK x6)]), (2, Blk.mk [Lf.lst 5, Lf.lst 14, Lf.int iK, Lf.int iK, Lf.str, Lf.lst 1, Lf.lst 1,
  Lf.lst 8, Lf.int iK, Lf.int iK] [X.own 0 74 5 r7, X.nilL 14, X.d (D.int iK x8), X.d (D.int iK x9), X.d (D.str s10), X.nilL 1, X.nilL 1, X.nilL 8, X.d
  (D.int iK x11), X.d (D.int iK x12)])] [0] 3 1 1 []) (kBlk 2 (kSeq (some [0, 2, 3]) (fun s K => Jn (Γ false) shp n2 j45_3 s K) (finK (Γ true) rc false (shp 45)
  (SFunc.results sf45) (List.length [([Lf.lst 5, Lf.int iK], [X.d (D.list 5 z3), X.d (D.int iK z4)])]))))
noncomputable def e73 (Γ : Bool → SemL) (n1 : Nat) (r0 : List (List D)) (x1 : Int) : Option Out := runF Γ shp rc false (shp 73) sf73 n1 [V.one (X.ptr 0 0)] [([Lf.lst 5, Lf.int iK],
  [X.d (D.list 5 r0), X.d (D.int iK x1)])]
noncomputable def l45_1_v2 (n0 : Nat) (Γ : Bool → SemL) (n2 : Nat) (z3 : List (List D)) (z4 : Int) (r0 : List (List D)) (x1 x2 x3 : Int) (s4 : ByteArray) (x5 x6 : Int)
  (r7 : List (List D)) (x8 x9 : Int) (s10 : ByteArray) (x11 x12 : Int) : Option Out := loopK (Γ false) shp n0 [0, 2, 3] lb45_1 (St.mk [(0, V.one (X.ptr 0 0)), (2, V.one (X.ptr
  1 0)), (3, V.one (X.ptr 2 0))] [(0, Blk.mk [Lf.lst 5, Lf.int iK] [X.d (D.list 5 r0), X.d (D.int iK x1)]), (1, Blk.mk [Lf.lst 5, Lf.lst 14, Lf.int iK, Lf.int
  iK, Lf.str, Lf.lst 1, Lf.lst 1, Lf.lst 8, Lf.int iK, Lf.int iK] [X.nilL 5, X.nilL 14, X.d (D.int iK x2), X.d (D.int iK x3), X.d (D.str s4),
  X.nilL 1, X.nilL 1, X.nilL 8, X.d (D.int iK x5), X.d (D.int iK x6)]), (2, Blk.mk [Lf.lst 5, Lf.lst 14, Lf.int iK, Lf.int iK, Lf.str, Lf.lst 1, Lf.lst 1,
  Lf.lst 8, Lf.int iK, Lf.int iK] [X.nilL 5, X.own 0 57 14 r7, X.d (D.int iK x8), X.d (D.int iK x9), X.d (D.str s10), X.nilL 1, X.nilL 1, X.nilL 8, X.d
  (D.int iK x11), X.d (D.int iK x12)])] [0] 3 1 1 []) (kBlk 2 (kSeq (some [0, 2, 3]) (fun s K => Jn (Γ false) shp n2 j45_3 s K) (finK (Γ true) rc false (shp 45)
  (SFunc.results sf45) (List.length [([Lf.lst 5, Lf.int iK], [X.d (D.list 5 z3), X.d (D.int iK z4)])]))))
noncomputable def q46_8 (Γ : Bool → SemL) (n1 : Nat) (n2 : Nat) (r0 : List (List D)) (x1 x2 : Int) (r3 r4 : List (List D)) (x5 x6 : Int) (s7 : ByteArray) (r8 r9 r10 : List (List D)) (x11 x12 x13 : Int) (s14 : ByteArray) (x15 x16 : Int) : Option Out := Jn (Γ false) shp n1 j46_8 (St.mk
  [(1, V.one (X.ptr 0 0)), (2, V.one (X.ptr 1 0)), (3, V.one (X.fn 74 [])), (35, V.one (X.d (D.list 14 r0))), (36, V.one (X.d (D.int iK x1))), (37, V.one (X.d (D.int iK
  x2)))] [(0, Blk.mk [Lf.lst 5, Lf.lst 14, Lf.int iK, Lf.int iK, Lf.str, Lf.lst 1, Lf.lst 1, Lf.lst 8, Lf.int iK, Lf.int iK] [X.d (D.list 5 r3), X.d
  (D.list 14 r4), X.d (D.int iK x5), X.d (D.int iK x6), X.d (D.str s7), X.d (D.list 1 r8), X.d (D.list 1 r9), X.d (D.list 8 r10), X.d (D.int iK x11), X.d (D.int
  iK x12)]), (1, Blk.mk [Lf.int iK, Lf.str, Lf.int iK, Lf.int iK] [X.d (D.int iK x13), X.d (D.str s14), X.d (D.int iK x15), X.d (D.int
  iK x16)])] [] 2 0 0 []) (kLoop (loopK (Γ false) shp n1) [1, 2, 3, 35, 36, 37] lb46_1 (kBlk 2 (kSeq (some [1, 2]) (fun s K => Jn (Γ false) shp n2 j46_9 s K) (finK (Γ true) rc false
  (shp 46) (SFunc.results sf46) 0))))
noncomputable def e102 (Γ : Bool → SemL) (n1 : Nat) (r0 : List (List D)) (x1 : Int) : Option Out := runF Γ shp rc false (shp 102) sf102 n1 [V.one (X.ptr 0 0)] [([Lf.lst 5, Lf.int
  iK], [X.d (D.list 5 r0), X.d (D.int iK x1)])]
noncomputable def e82 (Γ : Bool → SemL) (n1 : Nat) (x0 : Int) (r1 : List (List D)) (x2 : Int) : Option Out := runF Γ shp rc false (shp 82) sf82 n1 [V.one (X.ptr 0 0), V.one (X.d (D.int
  iK x0))] [([Lf.lst 5, Lf.int iK], [X.d (D.list 5 r1), X.d (D.int iK x2)])]
noncomputable def l90_0 (n0 : Nat) (Γ : Bool → SemL) (n2 : Nat) (z3 : List (List D)) (z4 : Int) (r0 : List (List D)) (x1 x2 x3 : Int) (r4 : List (List D)) : Option Out :=
  loopK (Γ false) shp n0 [0, 2, 4] lb90_0 (St.mk [(0, V.one (X.ptr 0 0)), (2, V.one (X.ptr 1 0)), (4, V.one (X.ptr 2 0))] [(0, Blk.mk [Lf.lst 5, Lf.int iK] [X.d (D.list 5 r0), X.d
  (D.int iK x1)]), (1, Blk.mk [Lf.int iK, Lf.lst 2] [X.d (D.int iK x2), X.nilL 2]), (2, Blk.mk [Lf.int iK, Lf.lst 2] [X.d (D.int iK x3), X.own 0
  55 2 r4])] [0] 3 1 1 []) (kBlk 1 (kSeq (some [0, 2, 4]) (fun s K => Jn (Γ false) shp n2 j90_2 s K) (finK (Γ true) rc false (shp 90) (SFunc.results sf90) (List.length [([Lf.lst 5, Lf.int
  iK], [X.d (D.list 5 z3), X.d (D.int iK z4)])]))))
noncomputable def q45_2_v1 (Γ : Bool → SemL) (n1 : Nat) (n2 : Nat) (z3 : List (List D)) (z4 : Int) (r0 : List (List D)) (x1 x2 x3 : Int) (s4 : ByteArray) (x5 x6 : Int)
  (r7 : List (List D)) (x8 x9 : Int) (s10 : ByteArray) (x11 x12 : Int) : Option Out := Jn (Γ false) shp n1 j45_2 (St.mk [(0, V.one (X.ptr 0 0)), (2, V.one (X.ptr 1 0)), (3,
  V.one (X.ptr 2 0))] [(0, Blk.mk [Lf.lst 5, Lf.int iK] [X.d (D.list 5 r0), X.d (D.int iK x1)]), (1, Blk.mk [Lf.lst 5, Lf.lst 14, Lf.int iK, Lf.int iK,
  Lf.str, Lf.lst 1, Lf.lst 1, Lf.lst 8, Lf.int iK, Lf.int iK] [X.nilL 5, X.nilL 14, X.d (D.int iK x2), X.d (D.int iK x3), X.d (D.str s4), X.nilL 1, X.nilL
  1, X.nilL 8, X.d (D.int iK x5), X.d (D.int iK x6)]), (2, Blk.mk [Lf.lst 5, Lf.lst 14, Lf.int iK, Lf.int iK, Lf.str, Lf.lst 1, Lf.lst 1, Lf.lst 8, Lf.int
  iK, Lf.int iK] [X.own 0 74 5 r7, X.nilL 14, X.d (D.int iK x8), X.d (D.int iK x9), X.d (D.str s10), X.nilL 1, X.nilL 1, X.nilL 8, X.d (D.int iK
  x11), X.d (D.int iK x12)])] [0] 3 1 1 []) (kLoop (loopK (Γ false) shp n1) [0, 2, 3] lb45_1 (kBlk 2 (kSeq (some [0, 2, 3]) (fun s K => Jn (Γ false) shp n2 j45_3 s K) (finK (Γ true)
  rc false (shp 45) (SFunc.results sf45) (List.length [([Lf.lst 5, Lf.int iK], [X.d (D.list 5 z3), X.d (D.int iK z4)])])))))
noncomputable def q45_3_v1 (Γ : Bool → SemL) (n1 : Nat) (z2 : List (List D)) (z3 : Int) (r0 : List (List D)) (x1 x2 x3 : Int) (s4 : ByteArray) (x5 x6 : Int) (r7 : List (List D)) (x8 x9 : Int) (s10 : ByteArray) (x11 x12 : Int) : Option Out := Jn (Γ false) shp n1 j45_3 (St.mk [(0, V.one (X.ptr 0 0)), (2, V.one (X.ptr 1 0)), (3, V.one (X.ptr
  2 0))] [(0, Blk.mk [Lf.lst 5, Lf.int iK] [X.d (D.list 5 r0), X.d (D.int iK x1)]), (1, Blk.mk [Lf.lst 5, Lf.lst 14, Lf.int iK, Lf.int iK, Lf.str, Lf.lst
  1, Lf.lst 1, Lf.lst 8, Lf.int iK, Lf.int iK] [X.nilL 5, X.nilL 14, X.d (D.int iK x2), X.d (D.int iK x3), X.d (D.str s4), X.nilL 1, X.nilL 1, X.nilL 8,
  X.d (D.int iK x5), X.d (D.int iK x6)]), (2, Blk.mk [Lf.lst 5, Lf.lst 14, Lf.int iK, Lf.int iK, Lf.str, Lf.lst 1, Lf.lst 1, Lf.lst 8, Lf.int iK,
  Lf.int iK] [X.own 0 74 5 r7, X.nilL 14, X.d (D.int iK x8), X.d (D.int iK x9), X.d (D.str s10), X.nilL 1, X.nilL 1, X.nilL 8, X.d (D.int iK x11), X.d
  (D.int iK x12)])] [0] 3 1 1 []) (finK (Γ true) rc false (shp 45) (SFunc.results sf45) (List.length [([Lf.lst 5, Lf.int iK], [X.d (D.list 5 z2), X.d (D.int iK
  z3)])]))
noncomputable def l73_0 (n0 : Nat) (Γ : Bool → SemL) (n2 : Nat) (z3 : List (List D)) (z4 : Int) (r0 : List (List D)) (x1 : Int) (s2 : ByteArray) (x3 x4 x5 : Int) (s6 :
  ByteArray) (x7 x8 x9 x10 : Int) (s11 : ByteArray) (r12 : List (List D)) (x13 x14 x15 : Int) (s16 : ByteArray) (x17 x18 x19 x20 : Int) : Option Out := loopK (Γ false) shp n0 [0, 2, 4] lb73_0 (St.mk [(0, V.one (X.ptr 0 0)), (2, V.one (X.ptr 1 0)), (4, V.one (X.ptr 2 0))] [(0, Blk.mk [Lf.lst 5, Lf.int
  iK] [X.d (D.list 5 r0), X.d (D.int iK x1)]), (1, Blk.mk [Lf.str, Lf.lst 5, Lf.int iK, Lf.lst 2, Lf.int iK, Lf.int iK, Lf.str, Lf.lst 1, Lf.lst
  1, Lf.lst 8, Lf.int iK, Lf.int iK, Lf.int iK, Lf.int iK] [X.d (D.str s2), X.nilL 5, X.d (D.int iK x3), X.nilL 2, X.d (D.int iK x4), X.d
  (D.int iK x5), X.d (D.str s6), X.nilL 1, X.nilL 1, X.nilL 8, X.d (D.int iK x7), X.d (D.int iK x8), X.d (D.int iK x9), X.d (D.int iK x10)]), (2,
  Blk.mk [Lf.str, Lf.lst 5, Lf.int iK, Lf.lst 2, Lf.int iK, Lf.int iK, Lf.str, Lf.lst 1, Lf.lst 1, Lf.lst 8, Lf.int iK, Lf.int iK, Lf.int
  iK, Lf.int iK] [X.d (D.str s11), X.own 0 74 5 r12, X.d (D.int iK x13), X.nilL 2, X.d (D.int iK x14), X.d (D.int iK x15), X.d (D.str s16), X.nilL
  1, X.nilL 1, X.nilL 8, X.d (D.int iK x17), X.d (D.int iK x18), X.d (D.int iK x19), X.d (D.int iK x20)])] [0] 3 1 1 []) (kBlk 0 (kSeq (some [0, 2, 4])
  (fun s K => Jn (Γ false) shp n2 j73_1 s K) (finK (Γ true) rc false (shp 73) (SFunc.results sf73) (List.length [([Lf.lst 5, Lf.int iK], [X.d (D.list 5 z3), X.d (D.int iK
  z4)])]))))
noncomputable def q73_1 (Γ : Bool → SemL) (n1 : Nat) (z2 : List (List D)) (z3 : Int) (r0 : List (List D)) (x1 : Int) (s2 : ByteArray) (x3 x4 x5 : Int) (s6 : ByteArray) (x7 x8 x9 x10 : Int) (s11 : ByteArray) (x12 x13 x14 : Int) (s15 : ByteArray) (x16 x17 x18 x19 : Int) : Option Out := Jn (Γ false)
  shp n1 j73_1 (St.mk [(0, V.one (X.ptr 0 0)), (2, V.one (X.ptr 1 0)), (4, V.one (X.ptr 2 0))] [(0, Blk.mk [Lf.lst 5, Lf.int iK] [X.d (D.list 5 r0), X.d (D.int iK x1)]), (1,
  Blk.mk [Lf.str, Lf.lst 5, Lf.int iK, Lf.lst 2, Lf.int iK, Lf.int iK, Lf.str, Lf.lst 1, Lf.lst 1, Lf.lst 8, Lf.int iK, Lf.int iK, Lf.int
  iK, Lf.int iK] [X.d (D.str s2), X.nilL 5, X.d (D.int iK x3), X.nilL 2, X.d (D.int iK x4), X.d (D.int iK x5), X.d (D.str s6), X.nilL 1, X.nilL 1,
  X.nilL 8, X.d (D.int iK x7), X.d (D.int iK x8), X.d (D.int iK x9), X.d (D.int iK x10)]), (2, Blk.mk [Lf.str, Lf.lst 5, Lf.int iK, Lf.lst 2,
  Lf.int iK, Lf.int iK, Lf.str, Lf.lst 1, Lf.lst 1, Lf.lst 8, Lf.int iK, Lf.int iK, Lf.int iK, Lf.int iK] [X.d (D.str s11), X.nilL 5, X.d
  (D.int iK x12), X.nilL 2, X.d (D.int iK x13), X.d (D.int iK x14), X.d (D.str s15), X.nilL 1, X.nilL 1, X.nilL 8, X.d (D.int iK x16), X.d (D.int
  iK x17), X.d (D.int iK x18), X.d (D.int iK x19)])] [] 3 0 1 []) (finK (Γ true) rc false (shp 73) (SFunc.results sf73) (List.length [([Lf.lst 5, Lf.int
  iK], [X.d (D.list 5 z2), X.d (D.int iK z3)])]))
noncomputable def q45_2_v2 (Γ : Bool → SemL) (n1 : Nat) (n2 : Nat) (z3 : List (List D)) (z4 : Int) (r0 : List (List D)) (x1 x2 x3 : Int) (s4 : ByteArray) (x5 x6 : Int)
  (r7 : List (List D)) (x8 x9 : Int) (s10 : ByteArray) (x11 x12 : Int) : Option Out := Jn (Γ false) shp n1 j45_2 (St.mk [(0, V.one (X.ptr 0 0)), (2, V.one (X.ptr 1 0)), (3,
  V.one (X.ptr 2 0))] [(0, Blk.mk [Lf.lst 5, Lf.int iK] [X.d (D.list 5 r0), X.d (D.int iK x1)]), (1, Blk.mk [Lf.lst 5, Lf.lst 14, Lf.int iK, Lf.int iK,
  Lf.str, Lf.lst 1, Lf.lst 1, Lf.lst 8, Lf.int iK, Lf.int iK] [X.nilL 5, X.nilL 14, X.d (D.int iK x2), X.d (D.int iK x3), X.d (D.str s4), X.nilL 1, X.nilL
  1, X.nilL 8, X.d (D.int iK x5), X.d (D.int iK x6)]), (2, Blk.mk [Lf.lst 5, Lf.lst 14, Lf.int iK, Lf.int iK, Lf.str, Lf.lst 1, Lf.lst 1, Lf.lst 8, Lf.int
  iK, Lf.int iK] [X.nilL 5, X.own 0 57 14 r7, X.d (D.int iK x8), X.d (D.int iK x9), X.d (D.str s10), X.nilL 1, X.nilL 1, X.nilL 8, X.d (D.int iK
  x11), X.d (D.int iK x12)])] [0] 3 1 1 []) (kLoop (loopK (Γ false) shp n1) [0, 2, 3] lb45_1 (kBlk 2 (kSeq (some [0, 2, 3]) (fun s K => Jn (Γ false) shp n2 j45_3 s K) (finK (Γ true)
  rc false (shp 45) (SFunc.results sf45) (List.length [([Lf.lst 5, Lf.int iK], [X.d (D.list 5 z3), X.d (D.int iK z4)])])))))
noncomputable def q45_3_v2 (Γ : Bool → SemL) (n1 : Nat) (z2 : List (List D)) (z3 : Int) (r0 : List (List D)) (x1 x2 x3 : Int) (s4 : ByteArray) (x5 x6 : Int) (r7 : List (List D)) (x8 x9 : Int) (s10 : ByteArray) (x11 x12 : Int) : Option Out := Jn (Γ false) shp n1 j45_3 (St.mk [(0, V.one (X.ptr 0 0)), (2, V.one (X.ptr 1 0)), (3, V.one (X.ptr
  2 0))] [(0, Blk.mk [Lf.lst 5, Lf.int iK] [X.d (D.list 5 r0), X.d (D.int iK x1)]), (1, Blk.mk [Lf.lst 5, Lf.lst 14, Lf.int iK, Lf.int iK, Lf.str, Lf.lst
  1, Lf.lst 1, Lf.lst 8, Lf.int iK, Lf.int iK] [X.nilL 5, X.nilL 14, X.d (D.int iK x2), X.d (D.int iK x3), X.d (D.str s4), X.nilL 1, X.nilL 1, X.nilL 8,
  X.d (D.int iK x5), X.d (D.int iK x6)]), (2, Blk.mk [Lf.lst 5, Lf.lst 14, Lf.int iK, Lf.int iK, Lf.str, Lf.lst 1, Lf.lst 1, Lf.lst 8, Lf.int iK,
  Lf.int iK] [X.nilL 5, X.own 0 57 14 r7, X.d (D.int iK x8), X.d (D.int iK x9), X.d (D.str s10), X.nilL 1, X.nilL 1, X.nilL 8, X.d (D.int iK x11), X.d
  (D.int iK x12)])] [0] 3 1 1 []) (finK (Γ true) rc false (shp 45) (SFunc.results sf45) (List.length [([Lf.lst 5, Lf.int iK], [X.d (D.list 5 z2), X.d (D.int iK
  z3)])]))
noncomputable def q102_0 (Γ : Bool → SemL) (n1 : Nat) (z2 : List (List D)) (z3 : Int) (r0 : List (List D)) (x1 : Int) : Option Out := Jn (Γ false) shp n1 j102_0 (St.mk [(0, V.one (X.ptr 0
  0))] [(0, Blk.mk [Lf.lst 5, Lf.int iK] [X.d (D.list 5 r0), X.d (D.int iK x1)])] [] 1 0 1 []) (finK (Γ true) rc false (shp 102) (SFunc.results sf102) (List.length [([Lf.lst
  5, Lf.int iK], [X.d (D.list 5 z2), X.d (D.int iK z3)])]))
noncomputable def q82_0 (Γ : Bool → SemL) (n1 : Nat) (z2 : List (List D)) (z3 x0 : Int) (r1 : List (List D)) (x2 x3 : Int) (s4 : ByteArray) (x5 x6 x7 : Int) :
  Option Out := Jn (Γ false) shp n1 j82_0 (St.mk [(1, V.one (X.d (D.int iK x0))), (5, V.one (X.ptr 1 0))] [(0, Blk.mk [Lf.lst 5, Lf.int iK] [X.d (D.list 5 r1), X.d (D.int
  iK x2)]), (1, Blk.mk [Lf.int iK, Lf.str, Lf.int iK, Lf.int iK, Lf.int iK] [X.d (D.int iK x3), X.d (D.str s4), X.d (D.int iK
  x5), X.d (D.int iK x6), X.d (D.int iK x7)])] [] 2 0 1 []) (finK (Γ true) rc false (shp 82) (SFunc.results sf82) (List.length [([Lf.lst 5, Lf.int iK], [X.d (D.list
  5 z2), X.d (D.int iK z3)])]))
noncomputable def q90_1 (Γ : Bool → SemL) (n1 : Nat) (n2 : Nat) (z3 : List (List D)) (z4 : Int) (r0 : List (List D)) (x1 x2 x3 : Int) (r4 : List (List D)) : Option Out := Jn
  (Γ false) shp n1 j90_1 (St.mk [(0, V.one (X.ptr 0 0)), (2, V.one (X.ptr 1 0)), (4, V.one (X.ptr 2 0))] [(0, Blk.mk [Lf.lst 5, Lf.int iK] [X.d (D.list 5 r0), X.d (D.int iK
  x1)]), (1, Blk.mk [Lf.int iK, Lf.lst 2] [X.d (D.int iK x2), X.nilL 2]), (2, Blk.mk [Lf.int iK, Lf.lst 2] [X.d (D.int iK x3), X.own 0 55 2 r4])] [0] 3 1 1
  []) (kLoop (loopK (Γ false) shp n1) [0, 2, 4] lb90_0 (kBlk 1 (kSeq (some [0, 2, 4]) (fun s K => Jn (Γ false) shp n2 j90_2 s K) (finK (Γ true) rc false (shp 90) (SFunc.results sf90)
  (List.length [([Lf.lst 5, Lf.int iK], [X.d (D.list 5 z3), X.d (D.int iK z4)])])))))
noncomputable def q90_2 (Γ : Bool → SemL) (n1 : Nat) (z2 : List (List D)) (z3 : Int) (r0 : List (List D)) (x1 x2 x3 : Int) (r4 : List (List D)) : Option Out := Jn (Γ false)
  shp n1 j90_2 (St.mk [(0, V.one (X.ptr 0 0)), (2, V.one (X.ptr 1 0)), (4, V.one (X.ptr 2 0))] [(0, Blk.mk [Lf.lst 5, Lf.int iK] [X.d (D.list 5 r0), X.d (D.int iK x1)]), (1,
  Blk.mk [Lf.int iK, Lf.lst 2] [X.d (D.int iK x2), X.nilL 2]), (2, Blk.mk [Lf.int iK, Lf.lst 2] [X.d (D.int iK x3), X.own 0 55 2 r4])] [0] 3 1 1 []) (finK
  (Γ true) rc false (shp 90) (SFunc.results sf90) (List.length [([Lf.lst 5, Lf.int iK], [X.d (D.list 5 z2), X.d (D.int iK z3)])]))
noncomputable def l45_1_v3 (n0 : Nat) (Γ : Bool → SemL) (n2 : Nat) (z3 : List (List D)) (z4 : Int) (r0 : List (List D)) (x1 x2 x3 : Int) (s4 : ByteArray) (x5 x6 : Int)
  (r7 r8 : List (List D)) (x9 x10 : Int) (s11 : ByteArray) (x12 x13 : Int) : Option Out := loopK (Γ false) shp n0 [0, 2, 3] lb45_1 (St.mk [(0, V.one (X.ptr 0
  0)), (2, V.one (X.ptr 1 0)), (3, V.one (X.ptr 2 0))] [(0, Blk.mk [Lf.lst 5, Lf.int iK] [X.d (D.list 5 r0), X.d (D.int iK x1)]), (1, Blk.mk [Lf.lst 5, Lf.lst 14, Lf.int
  iK, Lf.int iK, Lf.str, Lf.lst 1, Lf.lst 1, Lf.lst 8, Lf.int iK, Lf.int iK] [X.nilL 5, X.nilL 14, X.d (D.int iK x2), X.d (D.int iK x3),
  X.d (D.str s4), X.nilL 1, X.nilL 1, X.nilL 8, X.d (D.int iK x5), X.d (D.int iK x6)]), (2, Blk.mk [Lf.lst 5, Lf.lst 14, Lf.int iK, Lf.int iK, Lf.str,
  Lf.lst 1, Lf.lst 1, Lf.lst 8, Lf.int iK, Lf.int iK] [X.own 0 74 5 r7, X.own 1 57 14 r8, X.d (D.int iK x9), X.d (D.int iK x10), X.d (D.str s11), X.nilL 1,
  X.nilL 1, X.nilL 8, X.d (D.int iK x12), X.d (D.int iK x13)])] [0, 1] 3 2 1 []) (kBlk 2 (kSeq (some [0, 2, 3]) (fun s K => Jn (Γ false) shp n2 j45_3 s K) (finK (Γ true) rc
  false (shp 45) (SFunc.results sf45) (List.length [([Lf.lst 5, Lf.int iK], [X.d (D.list 5 z3), X.d (D.int iK z4)])]))))
noncomputable def q73_0 (Γ : Bool → SemL) (n1 : Nat) (n2 : Nat) (z3 : List (List D)) (z4 : Int) (r0 : List (List D)) (x1 : Int) (s2 : ByteArray) (x3 x4 x5 : Int) (s6 :
  ByteArray) (x7 x8 x9 x10 : Int) (s11 : ByteArray) (r12 : List (List D)) (x13 x14 x15 : Int) (s16 : ByteArray) (x17 x18 x19 x20 : Int) : Option Out := Jn (Γ false) shp n1 j73_0 (St.mk [(0, V.one (X.ptr 0 0)), (2, V.one (X.ptr 1 0)), (4, V.one (X.ptr 2 0))] [(0, Blk.mk [Lf.lst 5, Lf.int iK] [X.d (D.list
  5 r0), X.d (D.int iK x1)]), (1, Blk.mk [Lf.str, Lf.lst 5, Lf.int iK, Lf.lst 2, Lf.int iK, Lf.int iK, Lf.str, Lf.lst 1, Lf.lst 1, Lf.lst 8, Lf.int
  iK, Lf.int iK, Lf.int iK, Lf.int iK] [X.d (D.str s2), X.nilL 5, X.d (D.int iK x3), X.nilL 2, X.d (D.int iK x4), X.d (D.int iK
  x5), X.d (D.str s6), X.nilL 1, X.nilL 1, X.nilL 8, X.d (D.int iK x7), X.d (D.int iK x8), X.d (D.int iK x9), X.d (D.int iK x10)]), (2, Blk.mk [Lf.str,
  Lf.lst 5, Lf.int iK, Lf.lst 2, Lf.int iK, Lf.int iK, Lf.str, Lf.lst 1, Lf.lst 1, Lf.lst 8, Lf.int iK, Lf.int iK, Lf.int iK, Lf.int
  iK] [X.d (D.str s11), X.own 0 74 5 r12, X.d (D.int iK x13), X.nilL 2, X.d (D.int iK x14), X.d (D.int iK x15), X.d (D.str s16), X.nilL 1, X.nilL 1, X.nilL
  8, X.d (D.int iK x17), X.d (D.int iK x18), X.d (D.int iK x19), X.d (D.int iK x20)])] [0] 3 1 1 []) (kLoop (loopK (Γ false) shp n1) [0, 2, 4] lb73_0 (kBlk
  0 (kSeq (some [0, 2, 4]) (fun s K => Jn (Γ false) shp n2 j73_1 s K) (finK (Γ true) rc false (shp 73) (SFunc.results sf73) (List.length [([Lf.lst 5, Lf.int iK], [X.d (D.list 5 z3),
  X.d (D.int iK z4)])])))))
noncomputable def q73_1_v1 (Γ : Bool → SemL) (n1 : Nat) (z2 : List (List D)) (z3 : Int) (r0 : List (List D)) (x1 : Int) (s2 : ByteArray) (x3 x4 x5 : Int) (s6 : ByteArray) (x7 x8 x9 x10 : Int) (s11 : ByteArray) (r12 : List (List D)) (x13 x14 x15 : Int) (s16 : ByteArray) (x17 x18 x19 x20 : Int) :
  Option Out := Jn (Γ false) shp n1 j73_1 (St.mk [(0, V.one (X.ptr 0 0)), (2, V.one (X.ptr 1 0)), (4, V.one (X.ptr 2 0))] [(0, Blk.mk [Lf.lst 5, Lf.int iK] [X.d (D.list 5 r0), X.d
  (D.int iK x1)]), (1, Blk.mk [Lf.str, Lf.lst 5, Lf.int iK, Lf.lst 2, Lf.int iK, Lf.int iK, Lf.str, Lf.lst 1, Lf.lst 1, Lf.lst 8, Lf.int iK,
  Lf.int iK, Lf.int iK, Lf.int iK] [X.d (D.str s2), X.nilL 5, X.d (D.int iK x3), X.nilL 2, X.d (D.int iK x4), X.d (D.int iK x5), X.d
  (D.str s6), X.nilL 1, X.nilL 1, X.nilL 8, X.d (D.int iK x7), X.d (D.int iK x8), X.d (D.int iK x9), X.d (D.int iK x10)]), (2, Blk.mk [Lf.str, Lf.lst 5,
  Lf.int iK, Lf.lst 2, Lf.int iK, Lf.int iK, Lf.str, Lf.lst 1, Lf.lst 1, Lf.lst 8, Lf.int iK, Lf.int iK, Lf.int iK, Lf.int iK]
  [X.d (D.str s11), X.own 0 74 5 r12, X.d (D.int iK x13), X.nilL 2, X.d (D.int iK x14), X.d (D.int iK x15), X.d (D.str s16), X.nilL 1, X.nilL 1, X.nilL 8, X.d
  (D.int iK x17), X.d (D.int iK x18), X.d (D.int iK x19), X.d (D.int iK x20)])] [0] 3 1 1 []) (finK (Γ true) rc false (shp 73) (SFunc.results sf73)
  (List.length [([Lf.lst 5, Lf.int iK], [X.d (D.list 5 z2), X.d (D.int iK z3)])]))
noncomputable def q82_1 (Γ : Bool → SemL) (n1 : Nat) (z2 : List (List D)) (z3 : Int) (r0 : List (List D)) (x1 : Int) : Option Out := Jn (Γ false) shp n1 j82_1 (St.mk [] [(0, Blk.mk [Lf.lst 5,
  Lf.int iK] [X.d (D.list 5 r0), X.d (D.int iK x1)])] [] 1 0 1 []) (finK (Γ true) rc false (shp 82) (SFunc.results sf82) (List.length [([Lf.lst 5, Lf.int iK], [X.d
  (D.list 5 z2), X.d (D.int iK z3)])]))
noncomputable def e95 (Γ : Bool → SemL) (n1 : Nat) (r0 : List (List D)) (s1 : ByteArray) : Option Out := runF Γ shp rc false (shp 95) sf95 n1 [V.one (X.d (D.list 1 r0)), V.one (X.d (D.str
  s1))] []
noncomputable def q45_2_v3 (Γ : Bool → SemL) (n1 : Nat) (n2 : Nat) (z3 : List (List D)) (z4 : Int) (r0 : List (List D)) (x1 x2 x3 : Int) (s4 : ByteArray) (x5 x6 : Int)
  (r7 r8 : List (List D)) (x9 x10 : Int) (s11 : ByteArray) (x12 x13 : Int) : Option Out := Jn (Γ false) shp n1 j45_2 (St.mk [(0, V.one (X.ptr 0 0)), (2,
  V.one (X.ptr 1 0)), (3, V.one (X.ptr 2 0))] [(0, Blk.mk [Lf.lst 5, Lf.int iK] [X.d (D.list 5 r0), X.d (D.int iK x1)]), (1, Blk.mk [Lf.lst 5, Lf.lst 14, Lf.int iK,
  Lf.int iK, Lf.str, Lf.lst 1, Lf.lst 1, Lf.lst 8, Lf.int iK, Lf.int iK] [X.nilL 5, X.nilL 14, X.d (D.int iK x2), X.d (D.int iK x3), X.d (D.str
  s4), X.nilL 1, X.nilL 1, X.nilL 8, X.d (D.int iK x5), X.d (D.int iK x6)]), (2, Blk.mk [Lf.lst 5, Lf.lst 14, Lf.int iK, Lf.int iK, Lf.str, Lf.lst 1,
  Lf.lst 1, Lf.lst 8, Lf.int iK, Lf.int iK] [X.own 0 74 5 r7, X.own 1 57 14 r8, X.d (D.int iK x9), X.d (D.int iK x10), X.d (D.str s11), X.nilL 1, X.nilL 1,
  X.nilL 8, X.d (D.int iK x12), X.d (D.int iK x13)])] [0, 1] 3 2 1 []) (kLoop (loopK (Γ false) shp n1) [0, 2, 3] lb45_1 (kBlk 2 (kSeq (some [0, 2, 3]) (fun s K => Jn (Γ
  false) shp n2 j45_3 s K) (finK (Γ true) rc false (shp 45) (SFunc.results sf45) (List.length [([Lf.lst 5, Lf.int iK], [X.d (D.list 5 z3), X.d (D.int iK z4)])])))))
noncomputable def q45_3_v3 (Γ : Bool → SemL) (n1 : Nat) (z2 : List (List D)) (z3 : Int) (r0 : List (List D)) (x1 x2 x3 : Int) (s4 : ByteArray) (x5 x6 : Int) (r7 r8 : List (List D)) (x9 x10 : Int) (s11 : ByteArray) (x12 x13 : Int) : Option Out := Jn (Γ false) shp n1 j45_3 (St.mk [(0, V.one (X.ptr 0 0)), (2, V.one (X.ptr 1
  0)), (3, V.one (X.ptr 2 0))] [(0, Blk.mk [Lf.lst 5, Lf.int iK] [X.d (D.list 5 r0), X.d (D.int iK x1)]), (1, Blk.mk [Lf.lst 5, Lf.lst 14, Lf.int iK, Lf.int
  iK, Lf.str, Lf.lst 1, Lf.lst 1, Lf.lst 8, Lf.int iK, Lf.int iK] [X.nilL 5, X.nilL 14, X.d (D.int iK x2), X.d (D.int iK x3), X.d (D.str s4),
  X.nilL 1, X.nilL 1, X.nilL 8, X.d (D.int iK x5), X.d (D.int iK x6)]), (2, Blk.mk [Lf.lst 5, Lf.lst 14, Lf.int iK, Lf.int iK, Lf.str, Lf.lst 1, Lf.lst 1,
  Lf.lst 8, Lf.int iK, Lf.int iK] [X.own 0 74 5 r7, X.own 1 57 14 r8, X.d (D.int iK x9), X.d (D.int iK x10), X.d (D.str s11), X.nilL 1, X.nilL 1, X.nilL 8,
  X.d (D.int iK x12), X.d (D.int iK x13)])] [0, 1] 3 2 1 []) (finK (Γ true) rc false (shp 45) (SFunc.results sf45) (List.length [([Lf.lst 5, Lf.int iK], [X.d
  (D.list 5 z2), X.d (D.int iK z3)])]))
noncomputable def e103 (Γ : Bool → SemL) (n1 : Nat) (r0 : List (List D)) (s1 : ByteArray) : Option Out := runF Γ shp rc false (shp 103) sf103 n1 [V.one (X.d (D.list 1 r0)), V.one (X.d (D.str
  s1))] []
noncomputable def l103_0 (n0 : Nat) (Γ : Bool → SemL) (n2 : Nat) (r0 : List (List D)) (s1 : ByteArray) (x2 x3 : Int) : Option Out := loopK (Γ false) shp n0 [0, 1, 7, 8] lb103_0 (St.mk
  [(0, V.one (X.d (D.list 1 r0))), (1, V.one (X.d (D.str s1))), (7, V.one (X.d (D.int iK x2))), (8, V.one (X.d (D.int iK x3)))] [] [] 0 0 0 []) (kBlk 0 (kSeq (some []) (fun
  s K => Jn (Γ false) shp n2 j103_2 s K) (finK (Γ true) rc false (shp 103) (SFunc.results sf103) 0)))
noncomputable def q103_0 (Γ : Bool → SemL) (n1 : Nat) (n2 : Nat) (r0 : List (List D)) (s1 : ByteArray) (x2 x3 : Int) : Option Out := Jn (Γ false) shp n1 j103_0 (St.mk [(0, V.one (X.d
  (D.list 1 r0))), (1, V.one (X.d (D.str s1))), (7, V.one (X.d (D.int iK x2))), (8, V.one (X.d (D.int iK x3)))] [] [] 0 0 0 []) (kLoop (loopK (Γ false) shp n1) [0, 1, 7, 8]
  lb103_0 (kBlk 0 (kSeq (some []) (fun s K => Jn (Γ false) shp n2 j103_2 s K) (finK (Γ true) rc false (shp 103) (SFunc.results sf103) 0))))
noncomputable def q103_2 (Γ : Bool → SemL) (n1 : Nat) : Option Out := Jn (Γ false) shp n1 j103_2 (St.mk [] [] [] 0 0 0 []) (finK (Γ true) rc false (shp 103) (SFunc.results sf103) 0)
noncomputable def q103_1 (Γ : Bool → SemL) (n1 : Nat) (n2 : Nat) (r0 : List (List D)) (s1 : ByteArray) (x2 x3 : Int) : Option Out := Jn (Γ false) shp n1 j103_1 (St.mk [(0, V.one (X.d
  (D.list 1 r0))), (1, V.one (X.d (D.str s1))), (7, V.one (X.d (D.int iK x2))), (8, V.one (X.d (D.int iK x3)))] [] [] 0 0 0 []) (kLoop (loopK (Γ false) shp n1) [0, 1, 7, 8]
  lb103_0 (kBlk 0 (kSeq (some []) (fun s K => Jn (Γ false) shp n2 j103_2 s K) (finK (Γ true) rc false (shp 103) (SFunc.results sf103) 0))))
theorem e49_eq (Γ : Bool → SemL) (n1 : Nat) (r0 : List (List D)) (x1 : Int) : e49 Γ n1 r0 x1 = bif decide (0 ≤ x1) && decide (x1 < Int.ofNat (List.length r0)) then some (Out.mk true (V.agg
  [X.d (List.getD (List.getD r0 (Int.toNat x1) []) 0 D.junk), X.d (List.getD (List.getD r0 (Int.toNat x1) []) 1 D.junk), X.d (List.getD (List.getD r0 (Int.toNat x1) []) 2 D.junk), X.d
  (List.getD (List.getD r0 (Int.toNat x1) []) 3 D.junk), X.d (List.getD (List.getD r0 (Int.toNat x1) []) 4 D.junk)]) D.junk [[X.d (D.list 5 r0), X.d (D.int iK x1)]] 0) else none :=
  (run_step ..).trans (by kernel_rfl)
theorem e50_eq (Γ : Bool → SemL) (n1 : Nat) (r0 : List (List D)) (x1 : Int) : e50 Γ n1 r0 x1 = r_a5ISIII_L5I (Γ false 49 [V.one (X.ptr 0 0)] [([Lf.lst 5, Lf.int iK], [X.d (D.list 5
  r0), X.d (D.int iK x1)])]) (fun i0_ u1_ i2_ i3_ i4_ w5_ i6_ => some (Out.mk false V.junk (D.iface 30 [D.int iK 11, D.str u1_, D.int iK i3_, D.int iK
  i4_]) [[X.d (D.list 5 w5_), X.d (D.int iK i6_)]] 0)) fun d7_ w8_ i9_ => some (Out.mk false V.junk d7_ [[X.d (D.list 5 w8_), X.d (D.int iK i9_)]] 0) := (run_step ..).trans
  (by kernel_rfl)
theorem e75_eq (Γ : Bool → SemL) (n1 : Nat) (x0 : Int) (r1 : List (List D)) : e75 Γ n1 x0 r1 = l75_0 n1 Γ n1 0 r1 (Int.ofNat (List.length r1)) 0 := (run_step ..).trans (by kernel_rfl)
theorem e51_eq (Γ : Bool → SemL) (n1 : Nat) (s0 : ByteArray) (r1 : List (List D)) (x2 : Int) : e51 Γ n1 s0 r1 x2 = r_oB_L5I (Γ false 80 [V.one (X.ptr 0 0), V.one (X.d (D.str s0))] [([Lf.lst
  5, Lf.int iK], [X.d (D.list 5 r1), X.d (D.int iK x2)])]) (fun c0_ w1_ i2_ => bif c0_ then some (Out.mk true (V.one (X.d (D.bool true))) D.junk [[X.d (D.list 5 w1_), X.d
  (D.int iK (IntKind.wrap iK (i2_ + 1)))]] 0) else q51_0 Γ n1 r1 x2 w1_ i2_) fun d3_ w4_ i5_ => some (Out.mk false V.junk d3_ [[X.d (D.list 5 w4_), X.d (D.int iK
  i5_)]] 0) := (run_step ..).trans (by kernel_rfl)
theorem e52_eq (Γ : Bool → SemL) (n1 : Nat) (x0 x1 : Int) (s2 : ByteArray) (x3 x4 x5 : Int) : e52 Γ n1 x0 x1 s2 x3 x4 x5 = some (Out.mk true (V.agg [X.d (D.int
  iK x0), X.d (D.int iK 0), X.d (D.str (ByteArray.mk #[])), X.nilL 1, X.nilL 1, X.nilL 8, X.d (D.int iK x4), X.d (D.int iK x5)]) D.junk [] 0) := (run_step
  ..).trans (by kernel_rfl)
theorem e53_eq (Γ : Bool → SemL) (n1 : Nat) (x0 : Int) (r1 : List (List D)) (x2 : Int) : e53 Γ n1 x0 r1 x2 = r_a5ISIII_L5I (Γ false 49 [V.one (X.ptr 0 0)] [([Lf.lst 5, Lf.int iK],
  [X.d (D.list 5 r1), X.d (D.int iK x2)])]) (fun i0_ u1_ i2_ i3_ i4_ w5_ i6_ => bif i0_ != x0 then r_n_L5I (Γ false 50 [V.one (X.ptr 0 0)] [([Lf.lst 5, Lf.int iK], [X.d
  (D.list 5 w5_), X.d (D.int iK i6_)])]) (fun w10_ i11_ => q53_0 Γ n1 r1 x2 w10_ i11_ 0 (ByteArray.mk #[]) 0 0 0 i0_ u1_ i2_ i3_ i4_) fun d12_ w13_ i14_ => some (Out.mk false V.junk
  d12_ [[X.d (D.list 5 w13_), X.d (D.int iK i14_)]] 0) else q53_0 Γ n1 r1 x2 w5_ i6_ 0 (ByteArray.mk #[]) 0 0 0 i0_ u1_ i2_ i3_ i4_) fun d7_ w8_ i9_ => some (Out.mk false V.junk d7_
  [[X.d (D.list 5 w8_), X.d (D.int iK i9_)]] 0) := (run_step ..).trans (by kernel_rfl)
theorem e54_eq (Γ : Bool → SemL) (n1 : Nat) (s0 : ByteArray) (r1 : List (List D)) (x2 : Int) : e54 Γ n1 s0 r1 x2 = r_oB_L5I (Γ false 51 [V.one (X.ptr 0 0), V.one (X.d (D.str s0))] [([Lf.lst
  5, Lf.int iK], [X.d (D.list 5 r1), X.d (D.int iK x2)])]) (fun c0_ w1_ i2_ => bif !c0_ then r_n_L5I (Γ false 50 [V.one (X.ptr 0 0)] [([Lf.lst 5, Lf.int iK], [X.d
  (D.list 5 w1_), X.d (D.int iK i2_)])]) (fun w6_ i7_ => some (Out.mk true (V.tup []) D.junk [[X.d (D.list 5 w6_), X.d (D.int iK i7_)]] 0)) fun d8_ w9_ i10_ => some (Out.mk
  false V.junk d8_ [[X.d (D.list 5 w9_), X.d (D.int iK i10_)]] 0) else some (Out.mk true (V.tup []) D.junk [[X.d (D.list 5 w1_), X.d (D.int iK i2_)]] 0)) fun d3_ w4_ i5_ =>
  some (Out.mk false V.junk d3_ [[X.d (D.list 5 w4_), X.d (D.int iK i5_)]] 0) := (run_step ..).trans (by kernel_rfl)
theorem e55_eq (Γ : Bool → SemL) (n1 : Nat) (r0 : List (List D)) (x1 : Int) : e55 Γ n1 r0 x1 = r_a5ISIII_L5I (Γ false 53 [V.one (X.ptr 0 0), V.one (X.d (D.int iK 3))] [([Lf.lst 5,
  Lf.int iK], [X.d (D.list 5 r0), X.d (D.int iK x1)])]) (fun i0_ u1_ i2_ i3_ i4_ w5_ i6_ => r_n_L5I (Γ false 54 [V.one (X.ptr 0 0), V.one (X.d (D.str (ByteArray.mk #[47])))]
  [([Lf.lst 5, Lf.int iK], [X.d (D.list 5 w5_), X.d (D.int iK i6_)])]) (fun w10_ i11_ => r_a5ISIII_L5I (Γ false 53 [V.one (X.ptr 0 0), V.one (X.d (D.int iK 3))]
  [([Lf.lst 5, Lf.int iK], [X.d (D.list 5 w10_), X.d (D.int iK i11_)])]) (fun i15_ u16_ i17_ i18_ i19_ w20_ i21_ => some (Out.mk true (V.one (X.d (D.list 1 [[D.int
  iK i2_], [D.int iK i17_]]))) D.junk [[X.d (D.list 5 w20_), X.d (D.int iK i21_)]] 0)) fun d22_ w23_ i24_ => some (Out.mk false V.junk d22_ [[X.d (D.list 5 w23_),
  X.d (D.int iK i24_)]] 0)) fun d12_ w13_ i14_ => some (Out.mk false V.junk d12_ [[X.d (D.list 5 w13_), X.d (D.int iK i14_)]] 0)) fun d7_ w8_ i9_ => some (Out.mk false
  V.junk d7_ [[X.d (D.list 5 w8_), X.d (D.int iK i9_)]] 0) := (run_step ..).trans (by kernel_rfl)
theorem l75_0_eq (n0 : Nat) (Γ : Bool → SemL) (n2 : Nat) (x0 : Int) (r1 : List (List D)) (x2 x3 : Int) : l75_0 (n0 + 1) Γ n2 x0 r1 x2 x3 = bif decide (x3 < x2) then q75_0 Γ n0 n2 x0
  r1 x2 x3 else q75_2 Γ n2 x0 := (loop_step ..).trans (by kernel_rfl)
theorem e80_eq (Γ : Bool → SemL) (n1 : Nat) (s0 : ByteArray) (r1 : List (List D)) (x2 : Int) : e80 Γ n1 s0 r1 x2 = r_a5ISIII_L5I (Γ false 49 [V.one (X.ptr 0 0)] [([Lf.lst 5, Lf.int
  iK], [X.d (D.list 5 r1), X.d (D.int iK x2)])]) (fun i0_ u1_ i2_ i3_ i4_ w5_ i6_ => bif i0_ == 4 then some (Out.mk true (V.one (X.d (D.bool (beqL (Array.toList
  (ByteArray.data u1_)) (Array.toList (ByteArray.data s0)))))) D.junk [[X.d (D.list 5 w5_), X.d (D.int iK i6_)]] 0) else bif i0_ == 2 then some (Out.mk true (V.one (X.d (D.bool (beqL
  (Array.toList (ByteArray.data u1_)) (Array.toList (ByteArray.data s0)))))) D.junk [[X.d (D.list 5 w5_), X.d (D.int iK i6_)]] 0) else some (Out.mk true (V.one (X.d (D.bool false)))
  D.junk [[X.d (D.list 5 w5_), X.d (D.int iK i6_)]] 0)) fun d7_ w8_ i9_ => some (Out.mk false V.junk d7_ [[X.d (D.list 5 w8_), X.d (D.int iK i9_)]] 0) := (run_step ..).trans
  (by kernel_rfl)
theorem q51_0_eq (Γ : Bool → SemL) (n1 : Nat) (z2 : List (List D)) (z3 : Int) (r0 : List (List D)) (x1 : Int) : q51_0 Γ n1 z2 z3 r0 x1 = some (Out.mk true (V.one (X.d (D.bool false))) D.junk
  [[X.d (D.list 5 r0), X.d (D.int iK x1)]] 0) := (Jn_step ..).trans (by kernel_rfl)
theorem q53_0_eq (Γ : Bool → SemL) (n1 : Nat) (z2 : List (List D)) (z3 : Int) (r0 : List (List D)) (x1 x2 : Int) (s3 : ByteArray) (x4 x5 x6 x7 : Int) (s8 :
  ByteArray) (x9 x10 x11 : Int) : q53_0 Γ n1 z2 z3 r0 x1 x2 s3 x4 x5 x6 x7 s8 x9 x10 x11 = some (Out.mk true (V.agg [X.d (D.int iK x7), X.d (D.str s8), X.d (D.int
  iK x9), X.d (D.int iK x10), X.d (D.int iK x11)]) D.junk [[X.d (D.list 5 r0), X.d (D.int iK (IntKind.wrap iK (x1 + 1)))]] 0) := (Jn_step
  ..).trans (by kernel_rfl)
theorem e72_eq (Γ : Bool → SemL) (n1 : Nat) (r0 : List (List D)) (x1 : Int) : e72 Γ n1 r0 x1 = r_a5ISIII_L5I (Γ false 53 [V.one (X.ptr 0 0), V.one (X.d (D.int iK 1))] [([Lf.lst 5,
  Lf.int iK], [X.d (D.list 5 r0), X.d (D.int iK x1)])]) (fun i0_ u1_ i2_ i3_ i4_ w5_ i6_ => r_n_L5I (Γ false 54 [V.one (X.ptr 0 0), V.one (X.d (D.str (ByteArray.mk #[58])))]
  [([Lf.lst 5, Lf.int iK], [X.d (D.list 5 w5_), X.d (D.int iK i6_)])]) (fun w10_ i11_ => r_a2IL2_L5I (Γ false 90 [V.one (X.ptr 0 0)] [([Lf.lst 5, Lf.int iK], [X.d
  (D.list 5 w10_), X.d (D.int iK i11_)])]) (fun i15_ w16_ w17_ i18_ => some (Out.mk true (V.agg [X.d (D.str u1_), X.d (D.int iK i15_), X.d (D.list 2 w16_), X.d (D.int
  iK i3_), X.d (D.int iK i4_)]) D.junk [[X.d (D.list 5 w17_), X.d (D.int iK i18_)]] 0)) fun d19_ w20_ i21_ => some (Out.mk false V.junk d19_ [[X.d (D.list 5 w20_),
  X.d (D.int iK i21_)]] 0)) fun d12_ w13_ i14_ => some (Out.mk false V.junk d12_ [[X.d (D.list 5 w13_), X.d (D.int iK i14_)]] 0)) fun d7_ w8_ i9_ => some (Out.mk false
  V.junk d7_ [[X.d (D.list 5 w8_), X.d (D.int iK i9_)]] 0) := (run_step ..).trans (by kernel_rfl)
theorem l45_0_v1_eq (n0 : Nat) (Γ : Bool → SemL) (n2 : Nat) (z3 : List (List D)) (z4 : Int) (r0 : List (List D)) (x1 x2 x3 : Int) (s4 : ByteArray) (x5 x6 : Int) (r7 :
  List (List D)) (x8 x9 : Int) (s10 : ByteArray) (x11 x12 : Int) : l45_0_v1 (n0 + 1) Γ n2 z3 z4 r0 x1 x2 x3 s4 x5 x6 r7 x8 x9 s10 x11 x12 = r_oB_L5I (Γ false 51 [V.one (X.ptr
  0 0), V.one (X.d (D.str (ByteArray.mk #[105, 110, 112, 117, 116])))] [([Lf.lst 5, Lf.int iK], [X.d (D.list 5 r0), X.d (D.int iK x1)])]) (fun c0_ w1_ i2_ => bif c0_ then
  q45_0_v1 Γ n0 n2 z3 z4 w1_ i2_ x2 x3 s4 x5 x6 r7 x8 x9 s10 x11 x12 else q45_1_v1 Γ n2 z3 z4 w1_ i2_ x2 x3 s4 x5 x6 r7 x8 x9 s10 x11 x12) fun d3_ w4_ i5_ => some (Out.mk false V.junk d3_
  [[X.d (D.list 5 w4_), X.d (D.int iK i5_)]] 0) := (loop_step ..).trans (by kernel_rfl)
theorem q75_0_eq (Γ : Bool → SemL) (n1 : Nat) (n2 : Nat) (x0 : Int) (r1 : List (List D)) (x2 x3 : Int) : q75_0 Γ n1 n2 x0 r1 x2 x3 = bif decide (0 ≤ x3) && decide (x3 < Int.ofNat
  (List.length r1)) then r_oI (Γ false 75 [V.agg [X.d (List.getD (List.getD r1 (Int.toNat x3) []) 0 D.junk), X.d (List.getD (List.getD r1 (Int.toNat x3) []) 1 D.junk)]] []) (fun i0_ => q75_1
  Γ n1 n2 (if x0 < i0_ then i0_ else x0) r1 x2 x3) fun d1_ => some (Out.mk false V.junk d1_ [] 0) else none := (Jn_step ..).trans (by kernel_rfl)
theorem q75_2_eq (Γ : Bool → SemL) (n1 : Nat) (x0 : Int) : q75_2 Γ n1 x0 = some (Out.mk true (V.one (X.d (D.int iK (IntKind.wrap iK (x0 + 1))))) D.junk [] 0) := (Jn_step
  ..).trans (by kernel_rfl)
theorem e81_eq (Γ : Bool → SemL) (n1 : Nat) (r0 : List (List D)) (x1 : Int) : e81 Γ n1 r0 x1 = r_a5ISIII_L5I (Γ false 49 [V.one (X.ptr 0 0)] [([Lf.lst 5, Lf.int iK], [X.d (D.list 5
  r0), X.d (D.int iK x1)])]) (fun i0_ u1_ i2_ i3_ i4_ w5_ i6_ => r_oB_L5I (Γ false 51 [V.one (X.ptr 0 0), V.one (X.d (D.str (ByteArray.mk #[110, 111, 116])))] [([Lf.lst 5, Lf.int
  iK], [X.d (D.list 5 w5_), X.d (D.int iK i6_)])]) (fun c10_ w11_ i12_ => bif c10_ then q81_0 Γ n1 r0 x1 (ByteArray.mk #[110, 111, 116]) w11_ i12_ 0 0 (ByteArray.mk #[]) 0 0
  i0_ u1_ i2_ i3_ i4_ else r_oB_L5I (Γ false 51 [V.one (X.ptr 0 0), V.one (X.d (D.str (ByteArray.mk #[45])))] [([Lf.lst 5, Lf.int iK], [X.d (D.list 5 w11_), X.d (D.int iK
  i12_)])]) (fun c16_ w17_ i18_ => bif c16_ then q81_0 Γ n1 r0 x1 (ByteArray.mk #[110, 101, 103]) w17_ i18_ 0 0 (ByteArray.mk #[]) 0 0 i0_ u1_ i2_ i3_ i4_ else r_a8IISL1L1L8II_L5I (Γ false 94
  [V.one (X.ptr 0 0)] [([Lf.lst 5, Lf.int iK], [X.d (D.list 5 w17_), X.d (D.int iK i18_)])]) (fun i22_ i23_ u24_ w25_ w26_ w27_ i28_ i29_ w30_ i31_ => some (Out.mk true
  (V.agg [X.d (D.int iK i22_), X.d (D.int iK i23_), X.d (D.str u24_), X.d (D.list 1 w25_), X.d (D.list 1 w26_), X.d (D.list 8 w27_), X.d (D.int iK i28_), X.d (D.int
  iK i29_)]) D.junk [[X.d (D.list 5 w30_), X.d (D.int iK i31_)]] 0)) fun d32_ w33_ i34_ => some (Out.mk false V.junk d32_ [[X.d (D.list 5 w33_), X.d (D.int iK
  i34_)]] 0)) fun d19_ w20_ i21_ => some (Out.mk false V.junk d19_ [[X.d (D.list 5 w20_), X.d (D.int iK i21_)]] 0)) fun d13_ w14_ i15_ => some (Out.mk false V.junk d13_ [[X.d (D.list
  5 w14_), X.d (D.int iK i15_)]] 0)) fun d7_ w8_ i9_ => some (Out.mk false V.junk d7_ [[X.d (D.list 5 w8_), X.d (D.int iK i9_)]] 0) := (run_step ..).trans (by kernel_rfl)
theorem e90_eq (Γ : Bool → SemL) (n1 : Nat) (r0 : List (List D)) (x1 : Int) : e90 Γ n1 r0 x1 = r_oB_L5I (Γ false 51 [V.one (X.ptr 0 0), V.one (X.d (D.str (ByteArray.mk #[98, 111, 111,
  108])))] [([Lf.lst 5, Lf.int iK], [X.d (D.list 5 r0), X.d (D.int iK x1)])]) (fun c0_ w1_ i2_ => bif c0_ then some (Out.mk true (V.agg [X.d (D.int iK 1), X.d
  (D.list 2 [])]) D.junk [[X.d (D.list 5 w1_), X.d (D.int iK i2_)]] 0) else r_oB_L5I (Γ false 51 [V.one (X.ptr 0 0), V.one (X.d (D.str (ByteArray.mk #[105, 110, 116])))] [([Lf.lst 5,
  Lf.int iK], [X.d (D.list 5 w1_), X.d (D.int iK i2_)])]) (fun c6_ w7_ i8_ => bif c6_ then some (Out.mk true (V.agg [X.d (D.int iK 2), X.d (D.list 2 [])]) D.junk
  [[X.d (D.list 5 w7_), X.d (D.int iK i8_)]] 0) else r_oB_L5I (Γ false 51 [V.one (X.ptr 0 0), V.one (X.d (D.str (ByteArray.mk #[91])))] [([Lf.lst 5, Lf.int iK], [X.d (D.list
  5 w7_), X.d (D.int iK i8_)])]) (fun c12_ w13_ i14_ => bif c12_ then r_a2IL2_L5I (Γ false 90 [V.one (X.ptr 0 0)] [([Lf.lst 5, Lf.int iK], [X.d (D.list 5 w13_), X.d (D.int
  iK i14_)])]) (fun i18_ w19_ w20_ i21_ => r_n_L5I (Γ false 54 [V.one (X.ptr 0 0), V.one (X.d (D.str (ByteArray.mk #[93])))] [([Lf.lst 5, Lf.int iK], [X.d (D.list 5 w20_),
  X.d (D.int iK i21_)])]) (fun w25_ i26_ => some (Out.mk true (V.agg [X.d (D.int iK 4), X.d (D.list 2 [[D.int iK i18_, D.list 2 w19_]])]) D.junk [[X.d (D.list 5
  w25_), X.d (D.int iK i26_)]] 0)) fun d27_ w28_ i29_ => some (Out.mk false V.junk d27_ [[X.d (D.list 5 w28_), X.d (D.int iK i29_)]] 0)) fun d22_ w23_ i24_ => some (Out.mk
  false V.junk d22_ [[X.d (D.list 5 w23_), X.d (D.int iK i24_)]] 0) else q90_0 Γ n1 r0 x1 w13_ i14_ 0) fun d15_ w16_ i17_ => some (Out.mk false V.junk d15_ [[X.d (D.list 5 w16_), X.d
  (D.int iK i17_)]] 0)) fun d9_ w10_ i11_ => some (Out.mk false V.junk d9_ [[X.d (D.list 5 w10_), X.d (D.int iK i11_)]] 0)) fun d3_ w4_ i5_ => some (Out.mk false V.junk d3_
  [[X.d (D.list 5 w4_), X.d (D.int iK i5_)]] 0) := (run_step ..).trans (by kernel_rfl)
theorem q45_0_v1_eq (Γ : Bool → SemL) (n1 : Nat) (n2 : Nat) (z3 : List (List D)) (z4 : Int) (r0 : List (List D)) (x1 x2 x3 : Int) (s4 : ByteArray) (x5 x6 : Int) (r7 :
  List (List D)) (x8 x9 : Int) (s10 : ByteArray) (x11 x12 : Int) : q45_0_v1 Γ n1 n2 z3 z4 r0 x1 x2 x3 s4 x5 x6 r7 x8 x9 s10 x11 x12 = r_a5SIL2II_L5I (Γ false 72 [V.one (X.ptr
  0 0)] [([Lf.lst 5, Lf.int iK], [X.d (D.list 5 r0), X.d (D.int iK x1)])]) (fun u0_ i1_ w2_ i3_ i4_ w5_ i6_ => bif true && true && true && Nat.ble ((List.length r7 +
  List.length [[D.str u0_, D.int iK i1_, D.list 2 w2_, D.int iK i3_, D.int iK i4_]]) * 65) 140737488355328 then r_n_L5I (Γ false 54 [V.one (X.ptr 0 0), V.one (X.d
  (D.str (ByteArray.mk #[59])))] [([Lf.lst 5, Lf.int iK], [X.d (D.list 5 w5_), X.d (D.int iK i6_)])]) (fun w10_ i11_ => l45_0_v1 n1 Γ n2 z3 z4 w10_ i11_ x2 x3 s4 x5 x6 (r7
  ++ [[D.str u0_, D.int iK i1_, D.list 2 w2_, D.int iK i3_, D.int iK i4_]]) x8 x9 s10 x11 x12) fun d12_ w13_ i14_ => some (Out.mk false V.junk d12_ [[X.d (D.list 5
  w13_), X.d (D.int iK i14_)]] 0) else none) fun d7_ w8_ i9_ => some (Out.mk false V.junk d7_ [[X.d (D.list 5 w8_), X.d (D.int iK i9_)]] 0) := (Jn_step ..).trans (by
  kernel_rfl)
theorem q45_1_v1_eq (Γ : Bool → SemL) (n1 : Nat) (z2 : List (List D)) (z3 : Int) (r0 : List (List D)) (x1 x2 x3 : Int) (s4 : ByteArray) (x5 x6 : Int) (r7 : List (List D)) (x8 x9 : Int) (s10 : ByteArray) (x11 x12 : Int) : q45_1_v1 Γ n1 z2 z3 r0 x1 x2 x3 s4 x5 x6 r7 x8 x9 s10 x11 x12 = l45_1_v1 n1 Γ n1 z2 z3 r0 x1 x2 x3 s4 x5 x6 r7 x8 x9
  s10 x11 x12 := (Jn_step ..).trans (by kernel_rfl)
theorem q75_1_eq (Γ : Bool → SemL) (n1 : Nat) (n2 : Nat) (x0 : Int) (r1 : List (List D)) (x2 x3 : Int) : q75_1 Γ n1 n2 x0 r1 x2 x3 = l75_0 n1 Γ n2 x0 r1 x2 (IntKind.wrap iK
  (x3 + 1)) := (Jn_step ..).trans (by kernel_rfl)
theorem q81_0_eq (Γ : Bool → SemL) (n1 : Nat) (z2 : List (List D)) (z3 : Int) (s0 : ByteArray) (r1 : List (List D)) (x2 x3 x4 : Int) (s5 : ByteArray) (x6 x7 x8 : Int) (s9 : ByteArray) (x10 x11 x12 : Int) : q81_0 Γ n1 z2 z3 s0 r1 x2 x3 x4 s5 x6 x7 x8 s9 x10 x11 x12 = r_a8IISN1N1N8II (Γ false 52 [V.one (X.d (D.int iK 7)),
  V.agg [X.d (D.int iK x8), X.d (D.str s9), X.d (D.int iK x10), X.d (D.int iK x11), X.d (D.int iK x12)]] []) (fun i0_ i1_ u2_ i3_ i4_ =>
  r_a8IISL1L1L8II_L5I (Γ false 81 [V.one (X.ptr 0 0)] [([Lf.lst 5, Lf.int iK], [X.d (D.list 5 r1), X.d (D.int iK x2)])]) (fun i6_ i7_ u8_ w9_ w10_ w11_ i12_ i13_ w14_ i15_
  => some (Out.mk true (V.agg [X.d (D.int iK i0_), X.d (D.int iK i1_), X.d (D.str s0), X.d (D.list 1 []), X.d (D.list 1 []), X.d (D.list 8 [[D.int iK i6_, D.int
  iK i7_, D.str u8_, D.list 1 w9_, D.list 1 w10_, D.list 8 w11_, D.int iK i12_, D.int iK i13_]]), X.d (D.int iK i3_), X.d (D.int iK i4_)]) D.junk
  [[X.d (D.list 5 w14_), X.d (D.int iK i15_)]] 0)) fun d16_ w17_ i18_ => some (Out.mk false V.junk d16_ [[X.d (D.list 5 w17_), X.d (D.int iK i18_)]] 0)) fun d5_ => some
  (Out.mk false V.junk d5_ [[X.d (D.list 5 r1), X.d (D.int iK x2)]] 0) := (Jn_step ..).trans (by kernel_rfl)
theorem q90_0_eq (Γ : Bool → SemL) (n1 : Nat) (z2 : List (List D)) (z3 : Int) (r0 : List (List D)) (x1 x2 : Int) : q90_0 Γ n1 z2 z3 r0 x1 x2 = r_n_L5I (Γ false 54 [V.one (X.ptr 0 0),
  V.one (X.d (D.str (ByteArray.mk #[40])))] [([Lf.lst 5, Lf.int iK], [X.d (D.list 5 r0), X.d (D.int iK x1)])]) (fun w0_ i1_ => r_a2IL2_L5I (Γ false 90 [V.one (X.ptr 0 0)]
  [([Lf.lst 5, Lf.int iK], [X.d (D.list 5 w0_), X.d (D.int iK i1_)])]) (fun i5_ w6_ w7_ i8_ => r_n_L5I (Γ false 54 [V.one (X.ptr 0 0), V.one (X.d (D.str (ByteArray.mk
  #[44])))] [([Lf.lst 5, Lf.int iK], [X.d (D.list 5 w7_), X.d (D.int iK i8_)])]) (fun w12_ i13_ => r_a2IL2_L5I (Γ false 90 [V.one (X.ptr 0 0)] [([Lf.lst 5, Lf.int
  iK], [X.d (D.list 5 w12_), X.d (D.int iK i13_)])]) (fun i17_ w18_ w19_ i20_ => l90_0 n1 Γ n1 z2 z3 w19_ i20_ x2 3 [[D.int iK i5_, D.list 2 w6_], [D.int
  iK i17_, D.list 2 w18_]]) fun d21_ w22_ i23_ => some (Out.mk false V.junk d21_ [[X.d (D.list 5 w22_), X.d (D.int iK i23_)]] 0)) fun d14_ w15_ i16_ => some (Out.mk false
  V.junk d14_ [[X.d (D.list 5 w15_), X.d (D.int iK i16_)]] 0)) fun d9_ w10_ i11_ => some (Out.mk false V.junk d9_ [[X.d (D.list 5 w10_), X.d (D.int iK i11_)]] 0)) fun d2_
  w3_ i4_ => some (Out.mk false V.junk d2_ [[X.d (D.list 5 w3_), X.d (D.int iK i4_)]] 0) := (Jn_step ..).trans (by kernel_rfl)
theorem l45_1_v1_eq (n0 : Nat) (Γ : Bool → SemL) (n2 : Nat) (z3 : List (List D)) (z4 : Int) (r0 : List (List D)) (x1 x2 x3 : Int) (s4 : ByteArray) (x5 x6 : Int) (r7 :
  List (List D)) (x8 x9 : Int) (s10 : ByteArray) (x11 x12 : Int) : l45_1_v1 (n0 + 1) Γ n2 z3 z4 r0 x1 x2 x3 s4 x5 x6 r7 x8 x9 s10 x11 x12 = r_oB_L5I (Γ false 51 [V.one (X.ptr
  0 0), V.one (X.d (D.str (ByteArray.mk #[102, 117, 110])))] [([Lf.lst 5, Lf.int iK], [X.d (D.list 5 r0), X.d (D.int iK x1)])]) (fun c0_ w1_ i2_ => bif c0_ then q45_2_v1 Γ
  n0 n2 z3 z4 w1_ i2_ x2 x3 s4 x5 x6 r7 x8 x9 s10 x11 x12 else q45_3_v1 Γ n2 z3 z4 w1_ i2_ x2 x3 s4 x5 x6 r7 x8 x9 s10 x11 x12) fun d3_ w4_ i5_ => some (Out.mk false V.junk d3_ [[X.d (D.list
  5 w4_), X.d (D.int iK i5_)]] 0) := (loop_step ..).trans (by kernel_rfl)
theorem e73_eq (Γ : Bool → SemL) (n1 : Nat) (r0 : List (List D)) (x1 : Int) : e73 Γ n1 r0 x1 = r_a5ISIII_L5I (Γ false 53 [V.one (X.ptr 0 0), V.one (X.d (D.int iK 1))] [([Lf.lst 5,
  Lf.int iK], [X.d (D.list 5 r0), X.d (D.int iK x1)])]) (fun i0_ u1_ i2_ i3_ i4_ w5_ i6_ => r_n_L5I (Γ false 54 [V.one (X.ptr 0 0), V.one (X.d (D.str (ByteArray.mk #[40])))]
  [([Lf.lst 5, Lf.int iK], [X.d (D.list 5 w5_), X.d (D.int iK i6_)])]) (fun w10_ i11_ => r_oB_L5I (Γ false 80 [V.one (X.ptr 0 0), V.one (X.d (D.str (ByteArray.mk #[41])))]
  [([Lf.lst 5, Lf.int iK], [X.d (D.list 5 w10_), X.d (D.int iK i11_)])]) (fun c15_ w16_ i17_ => bif !c15_ then r_a5SIL2II_L5I (Γ false 72 [V.one (X.ptr 0 0)] [([Lf.lst 5,
  Lf.int iK], [X.d (D.list 5 w16_), X.d (D.int iK i17_)])]) (fun u21_ i22_ w23_ i24_ i25_ w26_ i27_ => l73_0 n1 Γ n1 r0 x1 w26_ i27_ (ByteArray.mk #[]) 0 0 0 (ByteArray.mk
  #[]) 0 0 0 0 u1_ [[D.str u21_, D.int iK i22_, D.list 2 w23_, D.int iK i24_, D.int iK i25_]] 0 0 0 (ByteArray.mk #[]) 0 0 i3_ i4_) fun d28_ w29_ i30_ => some
  (Out.mk false V.junk d28_ [[X.d (D.list 5 w29_), X.d (D.int iK i30_)]] 0) else q73_1 Γ n1 r0 x1 w16_ i17_ (ByteArray.mk #[]) 0 0 0 (ByteArray.mk #[]) 0 0 0 0 u1_ 0 0 0
  (ByteArray.mk #[]) 0 0 i3_ i4_) fun d18_ w19_ i20_ => some (Out.mk false V.junk d18_ [[X.d (D.list 5 w19_), X.d (D.int iK i20_)]] 0)) fun d12_ w13_ i14_ => some (Out.mk false
  V.junk d12_ [[X.d (D.list 5 w13_), X.d (D.int iK i14_)]] 0)) fun d7_ w8_ i9_ => some (Out.mk false V.junk d7_ [[X.d (D.list 5 w8_), X.d (D.int iK i9_)]] 0) := (run_step
  ..).trans (by kernel_rfl)
theorem l45_1_v2_eq (n0 : Nat) (Γ : Bool → SemL) (n2 : Nat) (z3 : List (List D)) (z4 : Int) (r0 : List (List D)) (x1 x2 x3 : Int) (s4 : ByteArray) (x5 x6 : Int) (r7 :
  List (List D)) (x8 x9 : Int) (s10 : ByteArray) (x11 x12 : Int) : l45_1_v2 (n0 + 1) Γ n2 z3 z4 r0 x1 x2 x3 s4 x5 x6 r7 x8 x9 s10 x11 x12 = r_oB_L5I (Γ false 51 [V.one (X.ptr
  0 0), V.one (X.d (D.str (ByteArray.mk #[102, 117, 110])))] [([Lf.lst 5, Lf.int iK], [X.d (D.list 5 r0), X.d (D.int iK x1)])]) (fun c0_ w1_ i2_ => bif c0_ then q45_2_v2 Γ
  n0 n2 z3 z4 w1_ i2_ x2 x3 s4 x5 x6 r7 x8 x9 s10 x11 x12 else q45_3_v2 Γ n2 z3 z4 w1_ i2_ x2 x3 s4 x5 x6 r7 x8 x9 s10 x11 x12) fun d3_ w4_ i5_ => some (Out.mk false V.junk d3_ [[X.d (D.list
  5 w4_), X.d (D.int iK i5_)]] 0) := (loop_step ..).trans (by kernel_rfl)
theorem e102_eq (Γ : Bool → SemL) (n1 : Nat) (r0 : List (List D)) (x1 : Int) : e102 Γ n1 r0 x1 = r_oB_L5I (Γ false 51 [V.one (X.ptr 0 0), V.one (X.d (D.str (ByteArray.mk #[45])))] [([Lf.lst
  5, Lf.int iK], [X.d (D.list 5 r0), X.d (D.int iK x1)])]) (fun c0_ w1_ i2_ => bif c0_ then r_a5ISIII_L5I (Γ false 53 [V.one (X.ptr 0 0), V.one (X.d (D.int iK 3))]
  [([Lf.lst 5, Lf.int iK], [X.d (D.list 5 w1_), X.d (D.int iK i2_)])]) (fun i6_ u7_ i8_ i9_ i10_ w11_ i12_ => some (Out.mk true (V.one (X.d (D.int iK (IntKind.wrap
  iK (0 - i8_))))) D.junk [[X.d (D.list 5 w11_), X.d (D.int iK i12_)]] 0)) fun d13_ w14_ i15_ => some (Out.mk false V.junk d13_ [[X.d (D.list 5 w14_), X.d (D.int iK
  i15_)]] 0) else q102_0 Γ n1 r0 x1 w1_ i2_) fun d3_ w4_ i5_ => some (Out.mk false V.junk d3_ [[X.d (D.list 5 w4_), X.d (D.int iK i5_)]] 0) := (run_step ..).trans (by kernel_rfl)
theorem e82_eq (Γ : Bool → SemL) (n1 : Nat) (x0 : Int) (r1 : List (List D)) (x2 : Int) : e82 Γ n1 x0 r1 x2 = r_a5ISIII_L5I (Γ false 49 [V.one (X.ptr 0 0)] [([Lf.lst 5, Lf.int iK],
  [X.d (D.list 5 r1), X.d (D.int iK x2)])]) (fun i0_ u1_ i2_ i3_ i4_ w5_ i6_ => bif i0_ != 4 then bif i0_ != 2 then some (Out.mk true (V.one (X.d (D.str (ByteArray.mk #[])))) D.junk
  [[X.d (D.list 5 w5_), X.d (D.int iK i6_)]] 0) else q82_0 Γ n1 r1 x2 x0 w5_ i6_ i0_ u1_ i2_ i3_ i4_ else q82_0 Γ n1 r1 x2 x0 w5_ i6_ i0_ u1_ i2_ i3_ i4_) fun d7_ w8_ i9_ => some
  (Out.mk false V.junk d7_ [[X.d (D.list 5 w8_), X.d (D.int iK i9_)]] 0) := (run_step ..).trans (by kernel_rfl)
theorem l90_0_eq (n0 : Nat) (Γ : Bool → SemL) (n2 : Nat) (z3 : List (List D)) (z4 : Int) (r0 : List (List D)) (x1 x2 x3 : Int) (r4 : List (List D)) : l90_0 (n0 + 1) Γ n2 z3 z4
  r0 x1 x2 x3 r4 = r_oB_L5I (Γ false 51 [V.one (X.ptr 0 0), V.one (X.d (D.str (ByteArray.mk #[44])))] [([Lf.lst 5, Lf.int iK], [X.d (D.list 5 r0), X.d (D.int iK x1)])]) (fun
  c0_ w1_ i2_ => bif c0_ then q90_1 Γ n0 n2 z3 z4 w1_ i2_ x2 x3 r4 else q90_2 Γ n2 z3 z4 w1_ i2_ x2 x3 r4) fun d3_ w4_ i5_ => some (Out.mk false V.junk d3_ [[X.d (D.list 5 w4_), X.d (D.int
  iK i5_)]] 0) := (loop_step ..).trans (by kernel_rfl)
theorem q45_2_v1_eq (Γ : Bool → SemL) (n1 : Nat) (n2 : Nat) (z3 : List (List D)) (z4 : Int) (r0 : List (List D)) (x1 x2 x3 : Int) (s4 : ByteArray) (x5 x6 : Int) (r7 :
  List (List D)) (x8 x9 : Int) (s10 : ByteArray) (x11 x12 : Int) : q45_2_v1 Γ n1 n2 z3 z4 r0 x1 x2 x3 s4 x5 x6 r7 x8 x9 s10 x11 x12 = r_a14SL5IL2IISL1L1L8IIII_L5I (Γ false 73
  [V.one (X.ptr 0 0)] [([Lf.lst 5, Lf.int iK], [X.d (D.list 5 r0), X.d (D.int iK x1)])]) (fun u0_ w1_ i2_ w3_ i4_ i5_ u6_ w7_ w8_ w9_ i10_ i11_ i12_ i13_ w14_ i15_ =>
  l45_1_v3 n1 Γ n2 z3 z4 w14_ i15_ x2 x3 s4 x5 x6 r7 [[D.str u0_, D.list 5 w1_, D.int iK i2_, D.list 2 w3_, D.int iK i4_, D.int iK i5_, D.str u6_, D.list 1 w7_,
  D.list 1 w8_, D.list 8 w9_, D.int iK i10_, D.int iK i11_, D.int iK i12_, D.int iK i13_]] x8 x9 s10 x11 x12) fun d16_ w17_ i18_ => some (Out.mk false
  V.junk d16_ [[X.d (D.list 5 w17_), X.d (D.int iK i18_)]] 0) := (Jn_step ..).trans (by kernel_rfl)
theorem q45_3_v1_eq (Γ : Bool → SemL) (n1 : Nat) (z2 : List (List D)) (z3 : Int) (r0 : List (List D)) (x1 x2 x3 : Int) (s4 : ByteArray) (x5 x6 : Int) (r7 : List (List D)) (x8 x9 : Int) (s10 : ByteArray) (x11 x12 : Int) : q45_3_v1 Γ n1 z2 z3 r0 x1 x2 x3 s4 x5 x6 r7 x8 x9 s10 x11 x12 = r_a8IISL1L1L8II_L5I (Γ false 24 [V.one (X.ptr 0 0)]
  [([Lf.lst 5, Lf.int iK], [X.d (D.list 5 r0), X.d (D.int iK x1)])]) (fun i0_ i1_ u2_ w3_ w4_ w5_ i6_ i7_ w8_ i9_ => some (Out.mk true (V.agg [X.d (D.list 5 r7), X.d (D.list
  14 []), X.d (D.int iK i0_), X.d (D.int iK i1_), X.d (D.str u2_), X.d (D.list 1 w3_), X.d (D.list 1 w4_), X.d (D.list 8 w5_), X.d (D.int iK i6_), X.d (D.int
  iK i7_)]) D.junk [[X.d (D.list 5 w8_), X.d (D.int iK i9_)]] 0)) fun d10_ w11_ i12_ => some (Out.mk false V.junk d10_ [[X.d (D.list 5 w11_), X.d (D.int iK i12_)]]
  0) := (Jn_step ..).trans (by kernel_rfl)
theorem l73_0_eq (n0 : Nat) (Γ : Bool → SemL) (n2 : Nat) (z3 : List (List D)) (z4 : Int) (r0 : List (List D)) (x1 : Int) (s2 : ByteArray) (x3 x4 x5 : Int) (s6 : ByteArray) (x7 x8 x9 x10 : Int) (s11 : ByteArray) (r12 : List (List D)) (x13 x14 x15 : Int) (s16 : ByteArray) (x17 x18 x19 x20 : Int) :
  l73_0 (n0 + 1) Γ n2 z3 z4 r0 x1 s2 x3 x4 x5 s6 x7 x8 x9 x10 s11 r12 x13 x14 x15 s16 x17 x18 x19 x20 = r_oB_L5I (Γ false 51 [V.one (X.ptr 0 0), V.one (X.d (D.str (ByteArray.mk #[44])))]
  [([Lf.lst 5, Lf.int iK], [X.d (D.list 5 r0), X.d (D.int iK x1)])]) (fun c0_ w1_ i2_ => bif c0_ then q73_0 Γ n0 n2 z3 z4 w1_ i2_ s2 x3 x4 x5 s6 x7 x8 x9 x10 s11 r12 x13 x14
  x15 s16 x17 x18 x19 x20 else q73_1_v1 Γ n2 z3 z4 w1_ i2_ s2 x3 x4 x5 s6 x7 x8 x9 x10 s11 r12 x13 x14 x15 s16 x17 x18 x19 x20) fun d3_ w4_ i5_ => some (Out.mk false V.junk d3_ [[X.d (D.list
  5 w4_), X.d (D.int iK i5_)]] 0) := (loop_step ..).trans (by kernel_rfl)
theorem q73_1_eq (Γ : Bool → SemL) (n1 : Nat) (z2 : List (List D)) (z3 : Int) (r0 : List (List D)) (x1 : Int) (s2 : ByteArray) (x3 x4 x5 : Int) (s6 : ByteArray) (x7 x8 x9 x10 : Int) (s11 : ByteArray) (x12 x13 x14 : Int) (s15 : ByteArray) (x16 x17 x18 x19 : Int) : q73_1 Γ n1 z2 z3 r0 x1 s2 x3 x4 x5 s6
  x7 x8 x9 x10 s11 x12 x13 x14 s15 x16 x17 x18 x19 = r_n_L5I (Γ false 54 [V.one (X.ptr 0 0), V.one (X.d (D.str (ByteArray.mk #[41])))] [([Lf.lst 5, Lf.int iK], [X.d (D.list 5 r0),
  X.d (D.int iK x1)])]) (fun w0_ i1_ => r_n_L5I (Γ false 54 [V.one (X.ptr 0 0), V.one (X.d (D.str (ByteArray.mk #[58])))] [([Lf.lst 5, Lf.int iK], [X.d (D.list 5 w0_), X.d
  (D.int iK i1_)])]) (fun w5_ i6_ => r_a2IL2_L5I (Γ false 90 [V.one (X.ptr 0 0)] [([Lf.lst 5, Lf.int iK], [X.d (D.list 5 w5_), X.d (D.int iK i6_)])]) (fun i10_ w11_
  w12_ i13_ => r_n_L5I (Γ false 54 [V.one (X.ptr 0 0), V.one (X.d (D.str (ByteArray.mk #[61])))] [([Lf.lst 5, Lf.int iK], [X.d (D.list 5 w12_), X.d (D.int iK i13_)])]) (fun
  w17_ i18_ => r_a8IISL1L1L8II_L5I (Γ false 24 [V.one (X.ptr 0 0)] [([Lf.lst 5, Lf.int iK], [X.d (D.list 5 w17_), X.d (D.int iK i18_)])]) (fun i22_ i23_ u24_ w25_ w26_ w27_
  i28_ i29_ w30_ i31_ => r_n_L5I (Γ false 54 [V.one (X.ptr 0 0), V.one (X.d (D.str (ByteArray.mk #[59])))] [([Lf.lst 5, Lf.int iK], [X.d (D.list 5 w30_), X.d (D.int iK
  i31_)])]) (fun w35_ i36_ => some (Out.mk true (V.agg [X.d (D.str s11), X.d (D.list 5 []), X.d (D.int iK i10_), X.d (D.list 2 w11_), X.d (D.int iK i22_), X.d (D.int
  iK i23_), X.d (D.str u24_), X.d (D.list 1 w25_), X.d (D.list 1 w26_), X.d (D.list 8 w27_), X.d (D.int iK i28_), X.d (D.int iK i29_), X.d (D.int iK x18),
  X.d (D.int iK x19)]) D.junk [[X.d (D.list 5 w35_), X.d (D.int iK i36_)]] 0)) fun d37_ w38_ i39_ => some (Out.mk false V.junk d37_ [[X.d (D.list 5 w38_), X.d (D.int
  iK i39_)]] 0)) fun d32_ w33_ i34_ => some (Out.mk false V.junk d32_ [[X.d (D.list 5 w33_), X.d (D.int iK i34_)]] 0)) fun d19_ w20_ i21_ => some (Out.mk false V.junk d19_
  [[X.d (D.list 5 w20_), X.d (D.int iK i21_)]] 0)) fun d14_ w15_ i16_ => some (Out.mk false V.junk d14_ [[X.d (D.list 5 w15_), X.d (D.int iK i16_)]] 0)) fun d7_ w8_ i9_ =>
  some (Out.mk false V.junk d7_ [[X.d (D.list 5 w8_), X.d (D.int iK i9_)]] 0)) fun d2_ w3_ i4_ => some (Out.mk false V.junk d2_ [[X.d (D.list 5 w3_), X.d (D.int iK i4_)]] 0)
  := (Jn_step ..).trans (by kernel_rfl)
theorem q45_2_v2_eq (Γ : Bool → SemL) (n1 : Nat) (n2 : Nat) (z3 : List (List D)) (z4 : Int) (r0 : List (List D)) (x1 x2 x3 : Int) (s4 : ByteArray) (x5 x6 : Int) (r7 :
  List (List D)) (x8 x9 : Int) (s10 : ByteArray) (x11 x12 : Int) : q45_2_v2 Γ n1 n2 z3 z4 r0 x1 x2 x3 s4 x5 x6 r7 x8 x9 s10 x11 x12 = r_a14SL5IL2IISL1L1L8IIII_L5I (Γ false 73
  [V.one (X.ptr 0 0)] [([Lf.lst 5, Lf.int iK], [X.d (D.list 5 r0), X.d (D.int iK x1)])]) (fun u0_ w1_ i2_ w3_ i4_ i5_ u6_ w7_ w8_ w9_ i10_ i11_ i12_ i13_ w14_ i15_ => bif
  true && true && true && Nat.ble ((List.length r7 + List.length [[D.str u0_, D.list 5 w1_, D.int iK i2_, D.list 2 w3_, D.int iK i4_, D.int iK i5_, D.str u6_,
  D.list 1 w7_, D.list 1 w8_, D.list 8 w9_, D.int iK i10_, D.int iK i11_, D.int iK i12_, D.int iK i13_]]) * 209) 140737488355328 then l45_1_v2 n1 Γ n2 z3
  z4 w14_ i15_ x2 x3 s4 x5 x6 (r7 ++ [[D.str u0_, D.list 5 w1_, D.int iK i2_, D.list 2 w3_, D.int iK i4_, D.int iK i5_, D.str u6_, D.list 1 w7_, D.list 1 w8_,
  D.list 8 w9_, D.int iK i10_, D.int iK i11_, D.int iK i12_, D.int iK i13_]]) x8 x9 s10 x11 x12 else none) fun d16_ w17_ i18_ => some (Out.mk false V.junk
  d16_ [[X.d (D.list 5 w17_), X.d (D.int iK i18_)]] 0) := (Jn_step ..).trans (by kernel_rfl)
theorem q45_3_v2_eq (Γ : Bool → SemL) (n1 : Nat) (z2 : List (List D)) (z3 : Int) (r0 : List (List D)) (x1 x2 x3 : Int) (s4 : ByteArray) (x5 x6 : Int) (r7 : List (List D)) (x8 x9 : Int) (s10 : ByteArray) (x11 x12 : Int) : q45_3_v2 Γ n1 z2 z3 r0 x1 x2 x3 s4 x5 x6 r7 x8 x9 s10 x11 x12 = r_a8IISL1L1L8II_L5I (Γ false 24 [V.one (X.ptr 0 0)]
  [([Lf.lst 5, Lf.int iK], [X.d (D.list 5 r0), X.d (D.int iK x1)])]) (fun i0_ i1_ u2_ w3_ w4_ w5_ i6_ i7_ w8_ i9_ => some (Out.mk true (V.agg [X.d (D.list 5 []), X.d (D.list
  14 r7), X.d (D.int iK i0_), X.d (D.int iK i1_), X.d (D.str u2_), X.d (D.list 1 w3_), X.d (D.list 1 w4_), X.d (D.list 8 w5_), X.d (D.int iK i6_), X.d (D.int
  iK i7_)]) D.junk [[X.d (D.list 5 w8_), X.d (D.int iK i9_)]] 0)) fun d10_ w11_ i12_ => some (Out.mk false V.junk d10_ [[X.d (D.list 5 w11_), X.d (D.int iK i12_)]]
  0) := (Jn_step ..).trans (by kernel_rfl)
theorem q102_0_eq (Γ : Bool → SemL) (n1 : Nat) (z2 : List (List D)) (z3 : Int) (r0 : List (List D)) (x1 : Int) : q102_0 Γ n1 z2 z3 r0 x1 = r_a5ISIII_L5I (Γ false 53 [V.one (X.ptr 0 0), V.one
  (X.d (D.int iK 3))] [([Lf.lst 5, Lf.int iK], [X.d (D.list 5 r0), X.d (D.int iK x1)])]) (fun i0_ u1_ i2_ i3_ i4_ w5_ i6_ => some (Out.mk true (V.one (X.d (D.int
  iK i2_))) D.junk [[X.d (D.list 5 w5_), X.d (D.int iK i6_)]] 0)) fun d7_ w8_ i9_ => some (Out.mk false V.junk d7_ [[X.d (D.list 5 w8_), X.d (D.int iK i9_)]] 0) :=
  (Jn_step ..).trans (by kernel_rfl)
theorem q82_0_eq (Γ : Bool → SemL) (n1 : Nat) (z2 : List (List D)) (z3 x0 : Int) (r1 : List (List D)) (x2 x3 : Int) (s4 : ByteArray) (x5 x6 x7 : Int) : q82_0 Γ
  n1 z2 z3 x0 r1 x2 x3 s4 x5 x6 x7 = bif x0 == 0 then bif beqL (Array.toList (ByteArray.data s4)) (Array.toList (ByteArray.data (ByteArray.mk #[111, 114]))) then some (Out.mk true (V.one (X.d
  (D.str s4))) D.junk [[X.d (D.list 5 r1), X.d (D.int iK x2)]] 0) else q82_1 Γ n1 z2 z3 r1 x2 else bif x0 == 1 then bif beqL (Array.toList (ByteArray.data s4)) (Array.toList
  (ByteArray.data (ByteArray.mk #[97, 110, 100]))) then some (Out.mk true (V.one (X.d (D.str s4))) D.junk [[X.d (D.list 5 r1), X.d (D.int iK x2)]] 0) else q82_1 Γ n1 z2 z3 r1 x2 else
  bif x0 == 2 then r_oB (Γ false 95 [V.one (X.d (D.list 1 [[D.str (ByteArray.mk #[61, 61])], [D.str (ByteArray.mk #[60])], [D.str (ByteArray.mk #[60, 61])]])), V.one (X.d (D.str s4))] [])
  (fun c0_ => bif c0_ then some (Out.mk true (V.one (X.d (D.str s4))) D.junk [[X.d (D.list 5 r1), X.d (D.int iK x2)]] 0) else q82_1 Γ n1 z2 z3 r1 x2) fun d1_ => some (Out.mk false
  V.junk d1_ [[X.d (D.list 5 r1), X.d (D.int iK x2)]] 0) else bif x0 == 3 then bif beqL (Array.toList (ByteArray.data s4)) (Array.toList (ByteArray.data (ByteArray.mk #[58, 58])))
  then some (Out.mk true (V.one (X.d (D.str s4))) D.junk [[X.d (D.list 5 r1), X.d (D.int iK x2)]] 0) else q82_1 Γ n1 z2 z3 r1 x2 else bif x0 == 4 then bif beqL (Array.toList
  (ByteArray.data s4)) (Array.toList (ByteArray.data (ByteArray.mk #[43]))) then some (Out.mk true (V.one (X.d (D.str s4))) D.junk [[X.d (D.list 5 r1), X.d (D.int iK x2)]] 0) else
  bif beqL (Array.toList (ByteArray.data s4)) (Array.toList (ByteArray.data (ByteArray.mk #[45]))) then some (Out.mk true (V.one (X.d (D.str s4))) D.junk [[X.d (D.list 5 r1), X.d (D.int
  iK x2)]] 0) else q82_1 Γ n1 z2 z3 r1 x2 else bif x0 == 5 then bif beqL (Array.toList (ByteArray.data s4)) (Array.toList (ByteArray.data (ByteArray.mk #[42]))) then some (Out.mk
  true (V.one (X.d (D.str s4))) D.junk [[X.d (D.list 5 r1), X.d (D.int iK x2)]] 0) else bif beqL (Array.toList (ByteArray.data s4)) (Array.toList (ByteArray.data (ByteArray.mk
  #[47]))) then some (Out.mk true (V.one (X.d (D.str s4))) D.junk [[X.d (D.list 5 r1), X.d (D.int iK x2)]] 0) else bif beqL (Array.toList (ByteArray.data s4)) (Array.toList
  (ByteArray.data (ByteArray.mk #[37]))) then some (Out.mk true (V.one (X.d (D.str s4))) D.junk [[X.d (D.list 5 r1), X.d (D.int iK x2)]] 0) else q82_1 Γ n1 z2 z3 r1 x2 else q82_1 Γ
  n1 z2 z3 r1 x2 := (Jn_step ..).trans (by kernel_rfl)
theorem q90_1_eq (Γ : Bool → SemL) (n1 : Nat) (n2 : Nat) (z3 : List (List D)) (z4 : Int) (r0 : List (List D)) (x1 x2 x3 : Int) (r4 : List (List D)) : q90_1 Γ n1 n2 z3 z4 r0 x1
  x2 x3 r4 = r_a2IL2_L5I (Γ false 90 [V.one (X.ptr 0 0)] [([Lf.lst 5, Lf.int iK], [X.d (D.list 5 r0), X.d (D.int iK x1)])]) (fun i0_ w1_ w2_ i3_ => bif true && true && true
  && Nat.ble ((List.length r4 + List.length [[D.int iK i0_, D.list 2 w1_]]) * 33) 140737488355328 then l90_0 n1 Γ n2 z3 z4 w2_ i3_ x2 x3 (r4 ++ [[D.int iK i0_, D.list 2
  w1_]]) else none) fun d4_ w5_ i6_ => some (Out.mk false V.junk d4_ [[X.d (D.list 5 w5_), X.d (D.int iK i6_)]] 0) := (Jn_step ..).trans (by kernel_rfl)
theorem q90_2_eq (Γ : Bool → SemL) (n1 : Nat) (z2 : List (List D)) (z3 : Int) (r0 : List (List D)) (x1 x2 x3 : Int) (r4 : List (List D)) : q90_2 Γ n1 z2 z3 r0 x1 x2 x3 r4 =
  r_n_L5I (Γ false 54 [V.one (X.ptr 0 0), V.one (X.d (D.str (ByteArray.mk #[41])))] [([Lf.lst 5, Lf.int iK], [X.d (D.list 5 r0), X.d (D.int iK x1)])]) (fun w0_ i1_ => some
  (Out.mk true (V.agg [X.d (D.int iK x3), X.d (D.list 2 r4)]) D.junk [[X.d (D.list 5 w0_), X.d (D.int iK i1_)]] 0)) fun d2_ w3_ i4_ => some (Out.mk false V.junk d2_ [[X.d
  (D.list 5 w3_), X.d (D.int iK i4_)]] 0) := (Jn_step ..).trans (by kernel_rfl)
theorem l45_1_v3_eq (n0 : Nat) (Γ : Bool → SemL) (n2 : Nat) (z3 : List (List D)) (z4 : Int) (r0 : List (List D)) (x1 x2 x3 : Int) (s4 : ByteArray) (x5 x6 : Int) (r7 r8 : List (List D)) (x9 x10 : Int) (s11 : ByteArray) (x12 x13 : Int) : l45_1_v3 (n0 + 1) Γ n2 z3 z4 r0 x1 x2 x3 s4 x5 x6 r7 r8 x9 x10 s11 x12 x13 = r_oB_L5I
  (Γ false 51 [V.one (X.ptr 0 0), V.one (X.d (D.str (ByteArray.mk #[102, 117, 110])))] [([Lf.lst 5, Lf.int iK], [X.d (D.list 5 r0), X.d (D.int iK x1)])]) (fun c0_ w1_ i2_ =>
  bif c0_ then q45_2_v3 Γ n0 n2 z3 z4 w1_ i2_ x2 x3 s4 x5 x6 r7 r8 x9 x10 s11 x12 x13 else q45_3_v3 Γ n2 z3 z4 w1_ i2_ x2 x3 s4 x5 x6 r7 r8 x9 x10 s11 x12 x13) fun d3_ w4_ i5_ => some (Out.mk
  false V.junk d3_ [[X.d (D.list 5 w4_), X.d (D.int iK i5_)]] 0) := (loop_step ..).trans (by kernel_rfl)
theorem q73_0_eq (Γ : Bool → SemL) (n1 : Nat) (n2 : Nat) (z3 : List (List D)) (z4 : Int) (r0 : List (List D)) (x1 : Int) (s2 : ByteArray) (x3 x4 x5 : Int) (s6 : ByteArray) (x7 x8 x9 x10 : Int) (s11 : ByteArray) (r12 : List (List D)) (x13 x14 x15 : Int) (s16 : ByteArray) (x17 x18 x19 x20 : Int) :
  q73_0 Γ n1 n2 z3 z4 r0 x1 s2 x3 x4 x5 s6 x7 x8 x9 x10 s11 r12 x13 x14 x15 s16 x17 x18 x19 x20 = r_a5SIL2II_L5I (Γ false 72 [V.one (X.ptr 0 0)] [([Lf.lst 5, Lf.int iK], [X.d (D.list
  5 r0), X.d (D.int iK x1)])]) (fun u0_ i1_ w2_ i3_ i4_ w5_ i6_ => bif true && true && true && Nat.ble ((List.length r12 + List.length [[D.str u0_, D.int iK i1_, D.list 2
  w2_, D.int iK i3_, D.int iK i4_]]) * 65) 140737488355328 then l73_0 n1 Γ n2 z3 z4 w5_ i6_ s2 x3 x4 x5 s6 x7 x8 x9 x10 s11 (r12 ++ [[D.str u0_, D.int iK i1_,
  D.list 2 w2_, D.int iK i3_, D.int iK i4_]]) x13 x14 x15 s16 x17 x18 x19 x20 else none) fun d7_ w8_ i9_ => some (Out.mk false V.junk d7_ [[X.d (D.list 5 w8_), X.d (D.int
  iK i9_)]] 0) := (Jn_step ..).trans (by kernel_rfl)
theorem q73_1_v1_eq (Γ : Bool → SemL) (n1 : Nat) (z2 : List (List D)) (z3 : Int) (r0 : List (List D)) (x1 : Int) (s2 : ByteArray) (x3 x4 x5 : Int) (s6 : ByteArray) (x7 x8 x9 x10 : Int) (s11 : ByteArray) (r12 : List (List D)) (x13 x14 x15 : Int) (s16 : ByteArray) (x17 x18 x19 x20 : Int) : q73_1_v1 Γ
  n1 z2 z3 r0 x1 s2 x3 x4 x5 s6 x7 x8 x9 x10 s11 r12 x13 x14 x15 s16 x17 x18 x19 x20 = r_n_L5I (Γ false 54 [V.one (X.ptr 0 0), V.one (X.d (D.str (ByteArray.mk #[41])))] [([Lf.lst 5, Lf.int
  iK], [X.d (D.list 5 r0), X.d (D.int iK x1)])]) (fun w0_ i1_ => r_n_L5I (Γ false 54 [V.one (X.ptr 0 0), V.one (X.d (D.str (ByteArray.mk #[58])))] [([Lf.lst 5, Lf.int
  iK], [X.d (D.list 5 w0_), X.d (D.int iK i1_)])]) (fun w5_ i6_ => r_a2IL2_L5I (Γ false 90 [V.one (X.ptr 0 0)] [([Lf.lst 5, Lf.int iK], [X.d (D.list 5 w5_), X.d
  (D.int iK i6_)])]) (fun i10_ w11_ w12_ i13_ => r_n_L5I (Γ false 54 [V.one (X.ptr 0 0), V.one (X.d (D.str (ByteArray.mk #[61])))] [([Lf.lst 5, Lf.int iK], [X.d (D.list 5
  w12_), X.d (D.int iK i13_)])]) (fun w17_ i18_ => r_a8IISL1L1L8II_L5I (Γ false 24 [V.one (X.ptr 0 0)] [([Lf.lst 5, Lf.int iK], [X.d (D.list 5 w17_), X.d (D.int iK
  i18_)])]) (fun i22_ i23_ u24_ w25_ w26_ w27_ i28_ i29_ w30_ i31_ => r_n_L5I (Γ false 54 [V.one (X.ptr 0 0), V.one (X.d (D.str (ByteArray.mk #[59])))] [([Lf.lst 5, Lf.int iK], [X.d
  (D.list 5 w30_), X.d (D.int iK i31_)])]) (fun w35_ i36_ => some (Out.mk true (V.agg [X.d (D.str s11), X.d (D.list 5 r12), X.d (D.int iK i10_), X.d (D.list 2 w11_), X.d
  (D.int iK i22_), X.d (D.int iK i23_), X.d (D.str u24_), X.d (D.list 1 w25_), X.d (D.list 1 w26_), X.d (D.list 8 w27_), X.d (D.int iK i28_), X.d (D.int iK
  i29_), X.d (D.int iK x19), X.d (D.int iK x20)]) D.junk [[X.d (D.list 5 w35_), X.d (D.int iK i36_)]] 0)) fun d37_ w38_ i39_ => some (Out.mk false V.junk d37_ [[X.d
  (D.list 5 w38_), X.d (D.int iK i39_)]] 0)) fun d32_ w33_ i34_ => some (Out.mk false V.junk d32_ [[X.d (D.list 5 w33_), X.d (D.int iK i34_)]] 0)) fun d19_ w20_ i21_ => some
  (Out.mk false V.junk d19_ [[X.d (D.list 5 w20_), X.d (D.int iK i21_)]] 0)) fun d14_ w15_ i16_ => some (Out.mk false V.junk d14_ [[X.d (D.list 5 w15_), X.d (D.int iK
  i16_)]] 0)) fun d7_ w8_ i9_ => some (Out.mk false V.junk d7_ [[X.d (D.list 5 w8_), X.d (D.int iK i9_)]] 0)) fun d2_ w3_ i4_ => some (Out.mk false V.junk d2_ [[X.d (D.list 5 w3_),
  X.d (D.int iK i4_)]] 0) := (Jn_step ..).trans (by kernel_rfl)
theorem q82_1_eq (Γ : Bool → SemL) (n1 : Nat) (z2 : List (List D)) (z3 : Int) (r0 : List (List D)) (x1 : Int) : q82_1 Γ n1 z2 z3 r0 x1 = some (Out.mk true (V.one (X.d (D.str (ByteArray.mk
  #[])))) D.junk [[X.d (D.list 5 r0), X.d (D.int iK x1)]] 0) := (Jn_step ..).trans (by kernel_rfl)
theorem e95_eq (Γ : Bool → SemL) (n1 : Nat) (r0 : List (List D)) (s1 : ByteArray) : e95 Γ n1 r0 s1 = r_oI (Γ false 103 [V.one (X.d (D.list 1 r0)), V.one (X.d (D.str s1))] []) (fun i0_ => some
  (Out.mk true (V.one (X.d (D.bool (decide (i0_ ≥ 0))))) D.junk [] 0)) fun d1_ => some (Out.mk false V.junk d1_ [] 0) := (run_step ..).trans (by kernel_rfl)
theorem q45_2_v3_eq (Γ : Bool → SemL) (n1 : Nat) (n2 : Nat) (z3 : List (List D)) (z4 : Int) (r0 : List (List D)) (x1 x2 x3 : Int) (s4 : ByteArray) (x5 x6 : Int) (r7 r8 : List (List D)) (x9 x10 : Int) (s11 : ByteArray) (x12 x13 : Int) : q45_2_v3 Γ n1 n2 z3 z4 r0 x1 x2 x3 s4 x5 x6 r7 r8 x9 x10 s11 x12 x13 =
  r_a14SL5IL2IISL1L1L8IIII_L5I (Γ false 73 [V.one (X.ptr 0 0)] [([Lf.lst 5, Lf.int iK], [X.d (D.list 5 r0), X.d (D.int iK x1)])]) (fun u0_ w1_ i2_ w3_ i4_ i5_ u6_ w7_ w8_
  w9_ i10_ i11_ i12_ i13_ w14_ i15_ => bif true && true && true && Nat.ble ((List.length r8 + List.length [[D.str u0_, D.list 5 w1_, D.int iK i2_, D.list 2 w3_, D.int iK
  i4_, D.int iK i5_, D.str u6_, D.list 1 w7_, D.list 1 w8_, D.list 8 w9_, D.int iK i10_, D.int iK i11_, D.int iK i12_, D.int iK i13_]]) * 209)
  140737488355328 then l45_1_v3 n1 Γ n2 z3 z4 w14_ i15_ x2 x3 s4 x5 x6 r7 (r8 ++ [[D.str u0_, D.list 5 w1_, D.int iK i2_, D.list 2 w3_, D.int iK i4_, D.int iK i5_,
  D.str u6_, D.list 1 w7_, D.list 1 w8_, D.list 8 w9_, D.int iK i10_, D.int iK i11_, D.int iK i12_, D.int iK i13_]]) x9 x10 s11 x12 x13 else none) fun d16_
  w17_ i18_ => some (Out.mk false V.junk d16_ [[X.d (D.list 5 w17_), X.d (D.int iK i18_)]] 0) := (Jn_step ..).trans (by kernel_rfl)
theorem q45_3_v3_eq (Γ : Bool → SemL) (n1 : Nat) (z2 : List (List D)) (z3 : Int) (r0 : List (List D)) (x1 x2 x3 : Int) (s4 : ByteArray) (x5 x6 : Int) (r7 r8 : List (List D)) (x9 x10 : Int) (s11 : ByteArray) (x12 x13 : Int) : q45_3_v3 Γ n1 z2 z3 r0 x1 x2 x3 s4 x5 x6 r7 r8 x9 x10 s11 x12 x13 = r_a8IISL1L1L8II_L5I (Γ false
  24 [V.one (X.ptr 0 0)] [([Lf.lst 5, Lf.int iK], [X.d (D.list 5 r0), X.d (D.int iK x1)])]) (fun i0_ i1_ u2_ w3_ w4_ w5_ i6_ i7_ w8_ i9_ => some (Out.mk true (V.agg [X.d
  (D.list 5 r7), X.d (D.list 14 r8), X.d (D.int iK i0_), X.d (D.int iK i1_), X.d (D.str u2_), X.d (D.list 1 w3_), X.d (D.list 1 w4_), X.d (D.list 8 w5_), X.d (D.int
  iK i6_), X.d (D.int iK i7_)]) D.junk [[X.d (D.list 5 w8_), X.d (D.int iK i9_)]] 0)) fun d10_ w11_ i12_ => some (Out.mk false V.junk d10_ [[X.d (D.list 5 w11_),
  X.d (D.int iK i12_)]] 0) := (Jn_step ..).trans (by kernel_rfl)
theorem e103_eq (Γ : Bool → SemL) (n1 : Nat) (r0 : List (List D)) (s1 : ByteArray) : e103 Γ n1 r0 s1 = l103_0 n1 Γ n1 r0 s1 (Int.ofNat (List.length r0)) 0 := (run_step ..).trans (by
  kernel_rfl)
theorem l103_0_eq (n0 : Nat) (Γ : Bool → SemL) (n2 : Nat) (r0 : List (List D)) (s1 : ByteArray) (x2 x3 : Int) : l103_0 (n0 + 1) Γ n2 r0 s1 x2 x3 = bif decide (x3 < x2) then q103_0 Γ
  n0 n2 r0 s1 x2 x3 else q103_2 Γ n2 := (loop_step ..).trans (by kernel_rfl)
theorem q103_0_eq (Γ : Bool → SemL) (n1 : Nat) (n2 : Nat) (r0 : List (List D)) (s1 : ByteArray) (x2 x3 : Int) : q103_0 Γ n1 n2 r0 s1 x2 x3 = bif decide (0 ≤ x3) && decide (x3 <
  Int.ofNat (List.length r0)) then bif D.isStr (List.getD (List.getD r0 (Int.toNat x3) []) 0 D.junk) then bif beqL (Array.toList (ByteArray.data s1)) (Array.toList (ByteArray.data (D.bytes
  (List.getD (List.getD r0 (Int.toNat x3) []) 0 D.junk)))) then some (Out.mk true (V.one (X.d (D.int iK x3))) D.junk [] 0) else q103_1 Γ n1 n2 r0 s1 x2 x3 else none else none :=
  (Jn_step ..).trans (by kernel_rfl)
theorem q103_2_eq (Γ : Bool → SemL) (n1 : Nat) : q103_2 Γ n1 = some (Out.mk true (V.one (X.d (D.int iK (-1)))) D.junk [] 0) := (Jn_step ..).trans (by kernel_rfl)
theorem q103_1_eq (Γ : Bool → SemL) (n1 : Nat) (n2 : Nat) (r0 : List (List D)) (s1 : ByteArray) (x2 x3 : Int) : q103_1 Γ n1 n2 r0 s1 x2 x3 = l103_0 n1 Γ n2 r0 s1 x2 (IntKind.wrap
  iK (x3 + 1)) := (Jn_step ..).trans (by kernel_rfl)
theorem call49 (r0 : List (List D)) (x1 : Int) {o : Out} (h : Ev (fun _ k n => e49 (Ak k) n r0 x1) o) : Cal 49 [V.one (X.ptr 0 0)] [([Lf.lst 5, Lf.int iK], [X.d (D.list 5 r0), X.d
  (D.int iK x1)])] o := Ev.call (E := fun Γ n1 => e49 Γ n1 r0 x1) (fun k => call_step (by kernel_rfl) rfl) h
theorem call50 (r0 : List (List D)) (x1 : Int) {o : Out} (h : Ev (fun _ k n => e50 (Ak k) n r0 x1) o) : Cal 50 [V.one (X.ptr 0 0)] [([Lf.lst 5, Lf.int iK], [X.d (D.list 5 r0), X.d
  (D.int iK x1)])] o := Ev.call (E := fun Γ n1 => e50 Γ n1 r0 x1) (fun k => call_step (by kernel_rfl) rfl) h
theorem call75 (x0 : Int) (r1 : List (List D)) {o : Out} (h : Ev (fun _ k n => e75 (Ak k) n x0 r1) o) : Cal 75 [V.agg [X.d (D.int iK x0), X.d (D.list 2 r1)]] [] o := Ev.call (E :=
  fun Γ n1 => e75 Γ n1 x0 r1) (fun k => call_step (by kernel_rfl) rfl) h
theorem call51 (s0 : ByteArray) (r1 : List (List D)) (x2 : Int) {o : Out} (h : Ev (fun _ k n => e51 (Ak k) n s0 r1 x2) o) : Cal 51 [V.one (X.ptr 0 0), V.one (X.d (D.str s0))] [([Lf.lst 5,
  Lf.int iK], [X.d (D.list 5 r1), X.d (D.int iK x2)])] o := Ev.call (E := fun Γ n1 => e51 Γ n1 s0 r1 x2) (fun k => call_step (by kernel_rfl) rfl) h
theorem call52 (x0 x1 : Int) (s2 : ByteArray) (x3 x4 x5 : Int) {o : Out} (h : Ev (fun _ k n => e52 (Ak k) n x0 x1 s2 x3 x4 x5) o) : Cal 52 [V.one (X.d (D.int
  iK x0)), V.agg [X.d (D.int iK x1), X.d (D.str s2), X.d (D.int iK x3), X.d (D.int iK x4), X.d (D.int iK x5)]] [] o := Ev.call (E := fun Γ n1 =>
  e52 Γ n1 x0 x1 s2 x3 x4 x5) (fun k => call_step (by kernel_rfl) rfl) h
theorem call53 (x0 : Int) (r1 : List (List D)) (x2 : Int) {o : Out} (h : Ev (fun _ k n => e53 (Ak k) n x0 r1 x2) o) : Cal 53 [V.one (X.ptr 0 0), V.one (X.d (D.int iK x0))] [([Lf.lst
  5, Lf.int iK], [X.d (D.list 5 r1), X.d (D.int iK x2)])] o := Ev.call (E := fun Γ n1 => e53 Γ n1 x0 r1 x2) (fun k => call_step (by kernel_rfl) rfl) h
theorem call54 (s0 : ByteArray) (r1 : List (List D)) (x2 : Int) {o : Out} (h : Ev (fun _ k n => e54 (Ak k) n s0 r1 x2) o) : Cal 54 [V.one (X.ptr 0 0), V.one (X.d (D.str s0))] [([Lf.lst 5,
  Lf.int iK], [X.d (D.list 5 r1), X.d (D.int iK x2)])] o := Ev.call (E := fun Γ n1 => e54 Γ n1 s0 r1 x2) (fun k => call_step (by kernel_rfl) rfl) h
theorem call55 (r0 : List (List D)) (x1 : Int) {o : Out} (h : Ev (fun _ k n => e55 (Ak k) n r0 x1) o) : Cal 55 [V.one (X.ptr 0 0)] [([Lf.lst 5, Lf.int iK], [X.d (D.list 5 r0), X.d
  (D.int iK x1)])] o := Ev.call (E := fun Γ n1 => e55 Γ n1 r0 x1) (fun k => call_step (by kernel_rfl) rfl) h
theorem call80 (s0 : ByteArray) (r1 : List (List D)) (x2 : Int) {o : Out} (h : Ev (fun _ k n => e80 (Ak k) n s0 r1 x2) o) : Cal 80 [V.one (X.ptr 0 0), V.one (X.d (D.str s0))] [([Lf.lst 5,
  Lf.int iK], [X.d (D.list 5 r1), X.d (D.int iK x2)])] o := Ev.call (E := fun Γ n1 => e80 Γ n1 s0 r1 x2) (fun k => call_step (by kernel_rfl) rfl) h
theorem call72 (r0 : List (List D)) (x1 : Int) {o : Out} (h : Ev (fun _ k n => e72 (Ak k) n r0 x1) o) : Cal 72 [V.one (X.ptr 0 0)] [([Lf.lst 5, Lf.int iK], [X.d (D.list 5 r0), X.d
  (D.int iK x1)])] o := Ev.call (E := fun Γ n1 => e72 Γ n1 r0 x1) (fun k => call_step (by kernel_rfl) rfl) h
theorem call81 (r0 : List (List D)) (x1 : Int) {o : Out} (h : Ev (fun _ k n => e81 (Ak k) n r0 x1) o) : Cal 81 [V.one (X.ptr 0 0)] [([Lf.lst 5, Lf.int iK], [X.d (D.list 5 r0), X.d
  (D.int iK x1)])] o := Ev.call (E := fun Γ n1 => e81 Γ n1 r0 x1) (fun k => call_step (by kernel_rfl) rfl) h
theorem call90 (r0 : List (List D)) (x1 : Int) {o : Out} (h : Ev (fun _ k n => e90 (Ak k) n r0 x1) o) : Cal 90 [V.one (X.ptr 0 0)] [([Lf.lst 5, Lf.int iK], [X.d (D.list 5 r0), X.d
  (D.int iK x1)])] o := Ev.call (E := fun Γ n1 => e90 Γ n1 r0 x1) (fun k => call_step (by kernel_rfl) rfl) h
theorem call73 (r0 : List (List D)) (x1 : Int) {o : Out} (h : Ev (fun _ k n => e73 (Ak k) n r0 x1) o) : Cal 73 [V.one (X.ptr 0 0)] [([Lf.lst 5, Lf.int iK], [X.d (D.list 5 r0), X.d
  (D.int iK x1)])] o := Ev.call (E := fun Γ n1 => e73 Γ n1 r0 x1) (fun k => call_step (by kernel_rfl) rfl) h
theorem call102 (r0 : List (List D)) (x1 : Int) {o : Out} (h : Ev (fun _ k n => e102 (Ak k) n r0 x1) o) : Cal 102 [V.one (X.ptr 0 0)] [([Lf.lst 5, Lf.int iK], [X.d (D.list 5 r0), X.d
  (D.int iK x1)])] o := Ev.call (E := fun Γ n1 => e102 Γ n1 r0 x1) (fun k => call_step (by kernel_rfl) rfl) h
theorem call82 (x0 : Int) (r1 : List (List D)) (x2 : Int) {o : Out} (h : Ev (fun _ k n => e82 (Ak k) n x0 r1 x2) o) : Cal 82 [V.one (X.ptr 0 0), V.one (X.d (D.int iK x0))] [([Lf.lst
  5, Lf.int iK], [X.d (D.list 5 r1), X.d (D.int iK x2)])] o := Ev.call (E := fun Γ n1 => e82 Γ n1 x0 r1 x2) (fun k => call_step (by kernel_rfl) rfl) h
theorem call95 (r0 : List (List D)) (s1 : ByteArray) {o : Out} (h : Ev (fun _ k n => e95 (Ak k) n r0 s1) o) : Cal 95 [V.one (X.d (D.list 1 r0)), V.one (X.d (D.str s1))] [] o := Ev.call (E :=
  fun Γ n1 => e95 Γ n1 r0 s1) (fun k => call_step (by kernel_rfl) rfl) h
theorem call103 (r0 : List (List D)) (s1 : ByteArray) {o : Out} (h : Ev (fun _ k n => e103 (Ak k) n r0 s1) o) : Cal 103 [V.one (X.d (D.list 1 r0)), V.one (X.d (D.str s1))] [] o := Ev.call (E
  := fun Γ n1 => e103 Γ n1 r0 s1) (fun k => call_step (by kernel_rfl) rfl) h
end Go.Proofs.Ytbmcafehpgimfaa.Ps
