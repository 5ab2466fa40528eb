/- What the pieces of the functions do, as functions of their data. Printed by pack4.py. -/
import Derived.Test.YtbmcafehpgimfaaPv0
namespace Go.Proofs.Ytbmcafehpgimfaa.Ps
set_option maxHeartbeats 0
set_option maxRecDepth 100000
set_option linter.unusedVariables false
open Go Go.RowKit
noncomputable def e7 (Γ : Bool → SemL) (n1 : Nat) (s0 : ByteArray) : Option Out := runF Γ shp rc false (shp 7) sf7 n1 [V.one (X.d (D.str s0))] []
noncomputable def q7_0 (Γ : Bool → SemL) (n1 : Nat) (r0 : List (List D)) (r1 : List (List D)) (x2 : Int) (x3 : Int) (s4 : ByteArray) (r5 : List (List D)) (r6 : List (List D)) (r7 : List (List
  D)) (x8 : Int) (x9 : Int) (x10 : Int) (s11 : ByteArray) (x12 : Int) (x13 : Int) (x14 : Int) (x15 : Int) (s16 : ByteArray) (r17 : List (List D)) (r18 : List (List D)) (r19 : List (List D))
  (x20 : Int) (x21 : Int) (x22 : Int) (s23 : ByteArray) (x24 : Int) (x25 : Int) : Option Out := Jn (Γ false) shp n1 j7_0 (St.mk [(3, V.one (X.ptr 0 0)), (4, V.one (X.ptr 1 0)), (5, V.one
  (X.ptr 2 0)), (6, V.one (X.ptr 3 0))] [(0, Blk.mk [Lf.lst 5, Lf.lst 14, Lf.int IntKind.i64, Lf.int IntKind.i64, Lf.str, Lf.lst 1, Lf.lst 1, Lf.lst 8, Lf.int IntKind.i64, Lf.int IntKind.i64]
  [X.d (D.list 5 r0), X.d (D.list 14 r1), X.d (D.int IntKind.i64 x2), X.d (D.int IntKind.i64 x3), X.d (D.str s4), X.d (D.list 1 r5), X.d (D.list 1 r6), X.d (D.list 8 r7), X.d (D.int
  IntKind.i64 x8), X.d (D.int IntKind.i64 x9)]), (1, Blk.mk [Lf.int IntKind.i64, Lf.str, Lf.int IntKind.i64, Lf.int IntKind.i64] [X.d (D.int IntKind.i64 x10), X.d (D.str s11), X.d (D.int
  IntKind.i64 x12), X.d (D.int IntKind.i64 x13)]), (2, Blk.mk [Lf.int IntKind.i64, Lf.int IntKind.i64, Lf.str, Lf.lst 1, Lf.lst 1, Lf.lst 8, Lf.int IntKind.i64, Lf.int IntKind.i64] [X.d
  (D.int IntKind.i64 x14), X.d (D.int IntKind.i64 x15), X.d (D.str s16), X.d (D.list 1 r17), X.d (D.list 1 r18), X.d (D.list 8 r19), X.d (D.int IntKind.i64 x20), X.d (D.int IntKind.i64
  x21)]), (3, Blk.mk [Lf.int IntKind.i64, Lf.str, Lf.int IntKind.i64, Lf.int IntKind.i64] [X.d (D.int IntKind.i64 x22), X.d (D.str s23), X.d (D.int IntKind.i64 x24), X.d (D.int IntKind.i64
  x25)])] [] 4 0 0 []) (finK (Γ true) rc false (shp 7) (SFunc.results sf7) 0)
noncomputable def e13 (Γ : Bool → SemL) (n1 : Nat) (x0 : Int) (x1 : Int) (s2 : ByteArray) (r3 : List (List D)) (r4 : List (List D)) (r5 : List (List D)) (x6 : Int) (x7 : Int) (x8 : Int) (x9 :
  Int) (s10 : ByteArray) (r11 : List (List D)) (r12 : List (List D)) (r13 : List (List D)) (x14 : Int) (x15 : Int) : Option Out := runF Γ shp rc false (shp 13) sf13 n1 [V.agg [X.d (D.int
  IntKind.i64 x0), X.d (D.int IntKind.i64 x1), X.d (D.str s2), X.d (D.list 1 r3), X.d (D.list 1 r4), X.d (D.list 8 r5), X.d (D.int IntKind.i64 x6), X.d (D.int IntKind.i64 x7)], V.agg [X.d
  (D.int IntKind.i64 x8), X.d (D.int IntKind.i64 x9), X.d (D.str s10), X.d (D.list 1 r11), X.d (D.list 1 r12), X.d (D.list 8 r13), X.d (D.int IntKind.i64 x14), X.d (D.int IntKind.i64 x15)]]
  []
noncomputable def q13_0 (Γ : Bool → SemL) (n1 : Nat) (x0 : Int) (x1 : Int) (s2 : ByteArray) (r3 : List (List D)) (r4 : List (List D)) (r5 : List (List D)) (x6 : Int) (x7 : Int) (x8 : Int) (x9
  : Int) (s10 : ByteArray) (r11 : List (List D)) (r12 : List (List D)) (r13 : List (List D)) (x14 : Int) (x15 : Int) : Option Out := Jn (Γ false) shp n1 j13_0 (St.mk [(2, V.one (X.ptr 0 0)),
  (3, V.one (X.ptr 1 0))] [(0, Blk.mk [Lf.int IntKind.i64, Lf.int IntKind.i64, Lf.str, Lf.lst 1, Lf.lst 1, Lf.lst 8, Lf.int IntKind.i64, Lf.int IntKind.i64] [X.d (D.int IntKind.i64 x0), X.d
  (D.int IntKind.i64 x1), X.d (D.str s2), X.d (D.list 1 r3), X.d (D.list 1 r4), X.d (D.list 8 r5), X.d (D.int IntKind.i64 x6), X.d (D.int IntKind.i64 x7)]), (1, Blk.mk [Lf.int IntKind.i64,
  Lf.int IntKind.i64, Lf.str, Lf.lst 1, Lf.lst 1, Lf.lst 8, Lf.int IntKind.i64, Lf.int IntKind.i64] [X.d (D.int IntKind.i64 x8), X.d (D.int IntKind.i64 x9), X.d (D.str s10), X.d (D.list 1
  r11), X.d (D.list 1 r12), X.d (D.list 8 r13), X.d (D.int IntKind.i64 x14), X.d (D.int IntKind.i64 x15)])] [] 2 0 0 []) (finK (Γ true) rc false (shp 13) (SFunc.results sf13) 0)
noncomputable def l13_0 (n0 : Nat) (Γ : Bool → SemL) (n2 : Nat) (x0 : Int) (x1 : Int) (x2 : Int) (s3 : ByteArray) (r4 : List (List D)) (r5 : List (List D)) (r6 : List (List D)) (x7 : Int) (x8
  : Int) (x9 : Int) (x10 : Int) (s11 : ByteArray) (r12 : List (List D)) (r13 : List (List D)) (r14 : List (List D)) (x15 : Int) (x16 : Int) : Option Out := loopK (Γ false) shp n0 [2, 3, 5]
  lb13_0 (St.mk [(2, V.one (X.ptr 0 0)), (3, V.one (X.ptr 1 0)), (5, V.one (X.d (D.int IntKind.i64 x0)))] [(0, Blk.mk [Lf.int IntKind.i64, Lf.int IntKind.i64, Lf.str, Lf.lst 1, Lf.lst 1,
  Lf.lst 8, Lf.int IntKind.i64, Lf.int IntKind.i64] [X.d (D.int IntKind.i64 x1), X.d (D.int IntKind.i64 x2), X.d (D.str s3), X.d (D.list 1 r4), X.d (D.list 1 r5), X.d (D.list 8 r6), X.d
  (D.int IntKind.i64 x7), X.d (D.int IntKind.i64 x8)]), (1, Blk.mk [Lf.int IntKind.i64, Lf.int IntKind.i64, Lf.str, Lf.lst 1, Lf.lst 1, Lf.lst 8, Lf.int IntKind.i64, Lf.int IntKind.i64] [X.d
  (D.int IntKind.i64 x9), X.d (D.int IntKind.i64 x10), X.d (D.str s11), X.d (D.list 1 r12), X.d (D.list 1 r13), X.d (D.list 8 r14), X.d (D.int IntKind.i64 x15), X.d (D.int IntKind.i64 x16)])]
  [] 2 0 0 []) (kBlk 0 (kSeq (some [2, 3]) (fun s K => Jn (Γ false) shp n2 j13_3 s K) (finK (Γ true) rc false (shp 13) (SFunc.results sf13) 0)))
noncomputable def q13_1 (Γ : Bool → SemL) (n1 : Nat) (n2 : Nat) (x0 : Int) (x1 : Int) (x2 : Int) (s3 : ByteArray) (r4 : List (List D)) (r5 : List (List D)) (r6 : List (List D)) (x7 : Int) (x8
  : Int) (x9 : Int) (x10 : Int) (s11 : ByteArray) (r12 : List (List D)) (r13 : List (List D)) (r14 : List (List D)) (x15 : Int) (x16 : Int) : Option Out := Jn (Γ false) shp n1 j13_1 (St.mk
  [(2, V.one (X.ptr 0 0)), (3, V.one (X.ptr 1 0)), (5, V.one (X.d (D.int IntKind.i64 x0)))] [(0, Blk.mk [Lf.int IntKind.i64, Lf.int IntKind.i64, Lf.str, Lf.lst 1, Lf.lst 1, Lf.lst 8, Lf.int
  IntKind.i64, Lf.int IntKind.i64] [X.d (D.int IntKind.i64 x1), X.d (D.int IntKind.i64 x2), X.d (D.str s3), X.d (D.list 1 r4), X.d (D.list 1 r5), X.d (D.list 8 r6), X.d (D.int IntKind.i64
  x7), X.d (D.int IntKind.i64 x8)]), (1, Blk.mk [Lf.int IntKind.i64, Lf.int IntKind.i64, Lf.str, Lf.lst 1, Lf.lst 1, Lf.lst 8, Lf.int IntKind.i64, Lf.int IntKind.i64] [X.d (D.int IntKind.i64
  x9), X.d (D.int IntKind.i64 x10), X.d (D.str s11), X.d (D.list 1 r12), X.d (D.list 1 r13), X.d (D.list 8 r14), X.d (D.int IntKind.i64 x15), X.d (D.int IntKind.i64 x16)])] [] 2 0 0 [])
  (kLoop (loopK (Γ false) shp n1) [2, 3, 5] lb13_0 (kBlk 0 (kSeq (some [2, 3]) (fun s K => Jn (Γ false) shp n2 j13_3 s K) (finK (Γ true) rc false (shp 13) (SFunc.results sf13) 0))))
noncomputable def q13_3 (Γ : Bool → SemL) (n1 : Nat) (x0 : Int) (x1 : Int) (s2 : ByteArray) (r3 : List (List D)) (r4 : List (List D)) (r5 : List (List D)) (x6 : Int) (x7 : Int) (x8 : Int) (x9
  : Int) (s10 : ByteArray) (r11 : List (List D)) (r12 : List (List D)) (r13 : List (List D)) (x14 : Int) (x15 : Int) : Option Out := Jn (Γ false) shp n1 j13_3 (St.mk [(2, V.one (X.ptr 0 0)),
  (3, V.one (X.ptr 1 0))] [(0, Blk.mk [Lf.int IntKind.i64, Lf.int IntKind.i64, Lf.str, Lf.lst 1, Lf.lst 1, Lf.lst 8, Lf.int IntKind.i64, Lf.int IntKind.i64] [X.d (D.int IntKind.i64 x0), X.d
  (D.int IntKind.i64 x1), X.d (D.str s2), X.d (D.list 1 r3), X.d (D.list 1 r4), X.d (D.list 8 r5), X.d (D.int IntKind.i64 x6), X.d (D.int IntKind.i64 x7)]), (1, Blk.mk [Lf.int IntKind.i64,
  Lf.int IntKind.i64, Lf.str, Lf.lst 1, Lf.lst 1, Lf.lst 8, Lf.int IntKind.i64, Lf.int IntKind.i64] [X.d (D.int IntKind.i64 x8), X.d (D.int IntKind.i64 x9), X.d (D.str s10), X.d (D.list 1
  r11), X.d (D.list 1 r12), X.d (D.list 8 r13), X.d (D.int IntKind.i64 x14), X.d (D.int IntKind.i64 x15)])] [] 2 0 0 []) (finK (Γ true) rc false (shp 13) (SFunc.results sf13) 0)
noncomputable def q13_2 (Γ : Bool → SemL) (n1 : Nat) (n2 : Nat) (x0 : Int) (x1 : Int) (x2 : Int) (s3 : ByteArray) (r4 : List (List D)) (r5 : List (List D)) (r6 : List (List D)) (x7 : Int) (x8
  : Int) (x9 : Int) (x10 : Int) (s11 : ByteArray) (r12 : List (List D)) (r13 : List (List D)) (r14 : List (List D)) (x15 : Int) (x16 : Int) : Option Out := Jn (Γ false) shp n1 j13_2 (St.mk
  [(2, V.one (X.ptr 0 0)), (3, V.one (X.ptr 1 0)), (5, V.one (X.d (D.int IntKind.i64 x0)))] [(0, Blk.mk [Lf.int IntKind.i64, Lf.int IntKind.i64, Lf.str, Lf.lst 1, Lf.lst 1, Lf.lst 8, Lf.int
  IntKind.i64, Lf.int IntKind.i64] [X.d (D.int IntKind.i64 x1), X.d (D.int IntKind.i64 x2), X.d (D.str s3), X.d (D.list 1 r4), X.d (D.list 1 r5), X.d (D.list 8 r6), X.d (D.int IntKind.i64
  x7), X.d (D.int IntKind.i64 x8)]), (1, Blk.mk [Lf.int IntKind.i64, Lf.int IntKind.i64, Lf.str, Lf.lst 1, Lf.lst 1, Lf.lst 8, Lf.int IntKind.i64, Lf.int IntKind.i64] [X.d (D.int IntKind.i64
  x9), X.d (D.int IntKind.i64 x10), X.d (D.str s11), X.d (D.list 1 r12), X.d (D.list 1 r13), X.d (D.list 8 r14), X.d (D.int IntKind.i64 x15), X.d (D.int IntKind.i64 x16)])] [] 2 0 0 [])
  (kLoop (loopK (Γ false) shp n1) [2, 3, 5] lb13_0 (kBlk 0 (kSeq (some [2, 3]) (fun s K => Jn (Γ false) shp n2 j13_3 s K) (finK (Γ true) rc false (shp 13) (SFunc.results sf13) 0))))
noncomputable def l13_1 (n0 : Nat) (Γ : Bool → SemL) (n2 : Nat) (x0 : Int) (x1 : Int) (x2 : Int) (s3 : ByteArray) (r4 : List (List D)) (r5 : List (List D)) (r6 : List (List D)) (x7 : Int) (x8
  : Int) (x9 : Int) (x10 : Int) (s11 : ByteArray) (r12 : List (List D)) (r13 : List (List D)) (r14 : List (List D)) (x15 : Int) (x16 : Int) : Option Out := loopK (Γ false) shp n0 [2, 3, 6]
  lb13_1 (St.mk [(2, V.one (X.ptr 0 0)), (3, V.one (X.ptr 1 0)), (6, V.one (X.d (D.int IntKind.i64 x0)))] [(0, Blk.mk [Lf.int IntKind.i64, Lf.int IntKind.i64, Lf.str, Lf.lst 1, Lf.lst 1,
  Lf.lst 8, Lf.int IntKind.i64, Lf.int IntKind.i64] [X.d (D.int IntKind.i64 x1), X.d (D.int IntKind.i64 x2), X.d (D.str s3), X.d (D.list 1 r4), X.d (D.list 1 r5), X.d (D.list 8 r6), X.d
  (D.int IntKind.i64 x7), X.d (D.int IntKind.i64 x8)]), (1, Blk.mk [Lf.int IntKind.i64, Lf.int IntKind.i64, Lf.str, Lf.lst 1, Lf.lst 1, Lf.lst 8, Lf.int IntKind.i64, Lf.int IntKind.i64] [X.d
  (D.int IntKind.i64 x9), X.d (D.int IntKind.i64 x10), X.d (D.str s11), X.d (D.list 1 r12), X.d (D.list 1 r13), X.d (D.list 8 r14), X.d (D.int IntKind.i64 x15), X.d (D.int IntKind.i64 x16)])]
  [] 2 0 0 []) (kBlk 2 (kSeq (some [2, 3]) (fun s K => Jn (Γ false) shp n2 j13_6 s K) (finK (Γ true) rc false (shp 13) (SFunc.results sf13) 0)))
noncomputable def q13_4 (Γ : Bool → SemL) (n1 : Nat) (n2 : Nat) (x0 : Int) (x1 : Int) (x2 : Int) (s3 : ByteArray) (r4 : List (List D)) (r5 : List (List D)) (r6 : List (List D)) (x7 : Int) (x8
  : Int) (x9 : Int) (x10 : Int) (s11 : ByteArray) (r12 : List (List D)) (r13 : List (List D)) (r14 : List (List D)) (x15 : Int) (x16 : Int) : Option Out := Jn (Γ false) shp n1 j13_4 (St.mk
  [(2, V.one (X.ptr 0 0)), (3, V.one (X.ptr 1 0)), (6, V.one (X.d (D.int IntKind.i64 x0)))] [(0, Blk.mk [Lf.int IntKind.i64, Lf.int IntKind.i64, Lf.str, Lf.lst 1, Lf.lst 1, Lf.lst 8, Lf.int
  IntKind.i64, Lf.int IntKind.i64] [X.d (D.int IntKind.i64 x1), X.d (D.int IntKind.i64 x2), X.d (D.str s3), X.d (D.list 1 r4), X.d (D.list 1 r5), X.d (D.list 8 r6), X.d (D.int IntKind.i64
  x7), X.d (D.int IntKind.i64 x8)]), (1, Blk.mk [Lf.int IntKind.i64, Lf.int IntKind.i64, Lf.str, Lf.lst 1, Lf.lst 1, Lf.lst 8, Lf.int IntKind.i64, Lf.int IntKind.i64] [X.d (D.int IntKind.i64
  x9), X.d (D.int IntKind.i64 x10), X.d (D.str s11), X.d (D.list 1 r12), X.d (D.list 1 r13), X.d (D.list 8 r14), X.d (D.int IntKind.i64 x15), X.d (D.int IntKind.i64 x16)])] [] 2 0 0 [])
  (kLoop (loopK (Γ false) shp n1) [2, 3, 6] lb13_1 (kBlk 2 (kSeq (some [2, 3]) (fun s K => Jn (Γ false) shp n2 j13_6 s K) (finK (Γ true) rc false (shp 13) (SFunc.results sf13) 0))))
noncomputable def q13_6 (Γ : Bool → SemL) (n1 : Nat) (x0 : Int) (x1 : Int) (s2 : ByteArray) (r3 : List (List D)) (r4 : List (List D)) (r5 : List (List D)) (x6 : Int) (x7 : Int) (x8 : Int) (x9
  : Int) (s10 : ByteArray) (r11 : List (List D)) (r12 : List (List D)) (r13 : List (List D)) (x14 : Int) (x15 : Int) : Option Out := Jn (Γ false) shp n1 j13_6 (St.mk [(2, V.one (X.ptr 0 0)),
  (3, V.one (X.ptr 1 0))] [(0, Blk.mk [Lf.int IntKind.i64, Lf.int IntKind.i64, Lf.str, Lf.lst 1, Lf.lst 1, Lf.lst 8, Lf.int IntKind.i64, Lf.int IntKind.i64] [X.d (D.int IntKind.i64 x0), X.d
  (D.int IntKind.i64 x1), X.d (D.str s2), X.d (D.list 1 r3), X.d (D.list 1 r4), X.d (D.list 8 r5), X.d (D.int IntKind.i64 x6), X.d (D.int IntKind.i64 x7)]), (1, Blk.mk [Lf.int IntKind.i64,
  Lf.int IntKind.i64, Lf.str, Lf.lst 1, Lf.lst 1, Lf.lst 8, Lf.int IntKind.i64, Lf.int IntKind.i64] [X.d (D.int IntKind.i64 x8), X.d (D.int IntKind.i64 x9), X.d (D.str s10), X.d (D.list 1
  r11), X.d (D.list 1 r12), X.d (D.list 8 r13), X.d (D.int IntKind.i64 x14), X.d (D.int IntKind.i64 x15)])] [] 2 0 0 []) (finK (Γ true) rc false (shp 13) (SFunc.results sf13) 0)
noncomputable def q13_5 (Γ : Bool → SemL) (n1 : Nat) (n2 : Nat) (x0 : Int) (x1 : Int) (x2 : Int) (s3 : ByteArray) (r4 : List (List D)) (r5 : List (List D)) (r6 : List (List D)) (x7 : Int) (x8
  : Int) (x9 : Int) (x10 : Int) (s11 : ByteArray) (r12 : List (List D)) (r13 : List (List D)) (r14 : List (List D)) (x15 : Int) (x16 : Int) : Option Out := Jn (Γ false) shp n1 j13_5 (St.mk
  [(2, V.one (X.ptr 0 0)), (3, V.one (X.ptr 1 0)), (6, V.one (X.d (D.int IntKind.i64 x0)))] [(0, Blk.mk [Lf.int IntKind.i64, Lf.int IntKind.i64, Lf.str, Lf.lst 1, Lf.lst 1, Lf.lst 8, Lf.int
  IntKind.i64, Lf.int IntKind.i64] [X.d (D.int IntKind.i64 x1), X.d (D.int IntKind.i64 x2), X.d (D.str s3), X.d (D.list 1 r4), X.d (D.list 1 r5), X.d (D.list 8 r6), X.d (D.int IntKind.i64
  x7), X.d (D.int IntKind.i64 x8)]), (1, Blk.mk [Lf.int IntKind.i64, Lf.int IntKind.i64, Lf.str, Lf.lst 1, Lf.lst 1, Lf.lst 8, Lf.int IntKind.i64, Lf.int IntKind.i64] [X.d (D.int IntKind.i64
  x9), X.d (D.int IntKind.i64 x10), X.d (D.str s11), X.d (D.list 1 r12), X.d (D.list 1 r13), X.d (D.list 8 r14), X.d (D.int IntKind.i64 x15), X.d (D.int IntKind.i64 x16)])] [] 2 0 0 [])
  (kLoop (loopK (Γ false) shp n1) [2, 3, 6] lb13_1 (kBlk 2 (kSeq (some [2, 3]) (fun s K => Jn (Γ false) shp n2 j13_6 s K) (finK (Γ true) rc false (shp 13) (SFunc.results sf13) 0))))
noncomputable def l13_2 (n0 : Nat) (Γ : Bool → SemL) (n2 : Nat) (x0 : Int) (x1 : Int) (x2 : Int) (s3 : ByteArray) (r4 : List (List D)) (r5 : List (List D)) (r6 : List (List D)) (x7 : Int) (x8
  : Int) (x9 : Int) (x10 : Int) (s11 : ByteArray) (r12 : List (List D)) (r13 : List (List D)) (r14 : List (List D)) (x15 : Int) (x16 : Int) : Option Out := loopK (Γ false) shp n0 [2, 3, 7]
  lb13_2 (St.mk [(2, V.one (X.ptr 0 0)), (3, V.one (X.ptr 1 0)), (7, V.one (X.d (D.int IntKind.i64 x0)))] [(0, Blk.mk [Lf.int IntKind.i64, Lf.int IntKind.i64, Lf.str, Lf.lst 1, Lf.lst 1,
  Lf.lst 8, Lf.int IntKind.i64, Lf.int IntKind.i64] [X.d (D.int IntKind.i64 x1), X.d (D.int IntKind.i64 x2), X.d (D.str s3), X.d (D.list 1 r4), X.d (D.list 1 r5), X.d (D.list 8 r6), X.d
  (D.int IntKind.i64 x7), X.d (D.int IntKind.i64 x8)]), (1, Blk.mk [Lf.int IntKind.i64, Lf.int IntKind.i64, Lf.str, Lf.lst 1, Lf.lst 1, Lf.lst 8, Lf.int IntKind.i64, Lf.int IntKind.i64] [X.d
  (D.int IntKind.i64 x9), X.d (D.int IntKind.i64 x10), X.d (D.str s11), X.d (D.list 1 r12), X.d (D.list 1 r13), X.d (D.list 8 r14), X.d (D.int IntKind.i64 x15), X.d (D.int IntKind.i64 x16)])]
  [] 2 0 0 []) (kBlk 4 (kSeq (some []) (fun s K => Jn (Γ false) shp n2 j13_9 s K) (finK (Γ true) rc false (shp 13) (SFunc.results sf13) 0)))
noncomputable def q13_7 (Γ : Bool → SemL) (n1 : Nat) (n2 : Nat) (x0 : Int) (x1 : Int) (x2 : Int) (s3 : ByteArray) (r4 : List (List D)) (r5 : List (List D)) (r6 : List (List D)) (x7 : Int) (x8
  : Int) (x9 : Int) (x10 : Int) (s11 : ByteArray) (r12 : List (List D)) (r13 : List (List D)) (r14 : List (List D)) (x15 : Int) (x16 : Int) : Option Out := Jn (Γ false) shp n1 j13_7 (St.mk
  [(2, V.one (X.ptr 0 0)), (3, V.one (X.ptr 1 0)), (7, V.one (X.d (D.int IntKind.i64 x0)))] [(0, Blk.mk [Lf.int IntKind.i64, Lf.int IntKind.i64, Lf.str, Lf.lst 1, Lf.lst 1, Lf.lst 8, Lf.int
  IntKind.i64, Lf.int IntKind.i64] [X.d (D.int IntKind.i64 x1), X.d (D.int IntKind.i64 x2), X.d (D.str s3), X.d (D.list 1 r4), X.d (D.list 1 r5), X.d (D.list 8 r6), X.d (D.int IntKind.i64
  x7), X.d (D.int IntKind.i64 x8)]), (1, Blk.mk [Lf.int IntKind.i64, Lf.int IntKind.i64, Lf.str, Lf.lst 1, Lf.lst 1, Lf.lst 8, Lf.int IntKind.i64, Lf.int IntKind.i64] [X.d (D.int IntKind.i64
  x9), X.d (D.int IntKind.i64 x10), X.d (D.str s11), X.d (D.list 1 r12), X.d (D.list 1 r13), X.d (D.list 8 r14), X.d (D.int IntKind.i64 x15), X.d (D.int IntKind.i64 x16)])] [] 2 0 0 [])
  (kLoop (loopK (Γ false) shp n1) [2, 3, 7] lb13_2 (kBlk 4 (kSeq (some []) (fun s K => Jn (Γ false) shp n2 j13_9 s K) (finK (Γ true) rc false (shp 13) (SFunc.results sf13) 0))))
noncomputable def q13_9 (Γ : Bool → SemL) (n1 : Nat) : Option Out := Jn (Γ false) shp n1 j13_9 (St.mk [] [] [] 0 0 0 []) (finK (Γ true) rc false (shp 13) (SFunc.results sf13) 0)
noncomputable def q13_8 (Γ : Bool → SemL) (n1 : Nat) (n2 : Nat) (x0 : Int) (x1 : Int) (x2 : Int) (s3 : ByteArray) (r4 : List (List D)) (r5 : List (List D)) (r6 : List (List D)) (x7 : Int) (x8
  : Int) (x9 : Int) (x10 : Int) (s11 : ByteArray) (r12 : List (List D)) (r13 : List (List D)) (r14 : List (List D)) (x15 : Int) (x16 : Int) : Option Out := Jn (Γ false) shp n1 j13_8 (St.mk
  [(2, V.one (X.ptr 0 0)), (3, V.one (X.ptr 1 0)), (7, V.one (X.d (D.int IntKind.i64 x0)))] [(0, Blk.mk [Lf.int IntKind.i64, Lf.int IntKind.i64, Lf.str, Lf.lst 1, Lf.lst 1, Lf.lst 8, Lf.int
  IntKind.i64, Lf.int IntKind.i64] [X.d (D.int IntKind.i64 x1), X.d (D.int IntKind.i64 x2), X.d (D.str s3), X.d (D.list 1 r4), X.d (D.list 1 r5), X.d (D.list 8 r6), X.d (D.int IntKind.i64
  x7), X.d (D.int IntKind.i64 x8)]), (1, Blk.mk [Lf.int IntKind.i64, Lf.int IntKind.i64, Lf.str, Lf.lst 1, Lf.lst 1, Lf.lst 8, Lf.int IntKind.i64, Lf.int IntKind.i64] [X.d (D.int IntKind.i64
  x9), X.d (D.int IntKind.i64 x10), X.d (D.str s11), X.d (D.list 1 r12), X.d (D.list 1 r13), X.d (D.list 8 r14), X.d (D.int IntKind.i64 x15), X.d (D.int IntKind.i64 x16)])] [] 2 0 0 [])
  (kLoop (loopK (Γ false) shp n1) [2, 3, 7] lb13_2 (kBlk 4 (kSeq (some []) (fun s K => Jn (Γ false) shp n2 j13_9 s K) (finK (Γ true) rc false (shp 13) (SFunc.results sf13) 0))))
theorem e7_eq (Γ : Bool → SemL) (n1 : Nat) (s0 : ByteArray) : e7 Γ n1 s0 = r_t2a10L5L14IISL1L1L8IIa4ISII (Γ false 19 [V.one (X.d (D.str s0))] []) (fun w0_ w1_ i2_ i3_ u4_ w5_ w6_ w7_ i8_ i9_
  i10_ u11_ i12_ i13_ => r_t2a8IISL1L1L8IIa4ISII (Γ false 11 [V.one (X.d (D.str s0))] []) (fun i15_ i16_ u17_ w18_ w19_ w20_ i21_ i22_ i23_ u24_ i25_ i26_ => bif decide (Int.ofNat
  (ByteArray.size s0) > 9000) then bif decide (Int.ofNat (ByteArray.size s0) > 9000) then r_oB (Γ false 10 [] []) (fun c28_ => some (Out.mk true (V.one (X.d (D.bool c28_))) D.junk [] 0)) fun
  d29_ => some (Out.mk false V.junk d29_ [] 0) else bif i10_ != 0 then r_oB (Γ false 10 [] []) (fun c30_ => some (Out.mk true (V.one (X.d (D.bool c30_))) D.junk [] 0)) fun d31_ => some
  (Out.mk false V.junk d31_ [] 0) else bif decide (IntKind.wrap IntKind.i64 (Int.ofNat (List.length w0_) + Int.ofNat (List.length w1_)) > 0) then r_oB (Γ false 10 [] []) (fun c32_ => some
  (Out.mk true (V.one (X.d (D.bool c32_))) D.junk [] 0)) fun d33_ => some (Out.mk false V.junk d33_ [] 0) else some (Out.mk true (V.one (X.d (D.bool false))) D.junk [] 0) else bif i23_ != 0
  then bif decide (Int.ofNat (ByteArray.size s0) > 9000) then r_oB (Γ false 10 [] []) (fun c34_ => some (Out.mk true (V.one (X.d (D.bool c34_))) D.junk [] 0)) fun d35_ => some (Out.mk false
  V.junk d35_ [] 0) else bif i10_ != 0 then r_oB (Γ false 10 [] []) (fun c36_ => some (Out.mk true (V.one (X.d (D.bool c36_))) D.junk [] 0)) fun d37_ => some (Out.mk false V.junk d37_ [] 0)
  else bif decide (IntKind.wrap IntKind.i64 (Int.ofNat (List.length w0_) + Int.ofNat (List.length w1_)) > 0) then r_oB (Γ false 10 [] []) (fun c38_ => some (Out.mk true (V.one (X.d (D.bool
  c38_))) D.junk [] 0)) fun d39_ => some (Out.mk false V.junk d39_ [] 0) else some (Out.mk true (V.one (X.d (D.bool false))) D.junk [] 0) else q7_0 Γ n1 w0_ w1_ i2_ i3_ u4_ w5_ w6_ w7_ i8_
  i9_ i10_ u11_ i12_ i13_ i15_ i16_ u17_ w18_ w19_ w20_ i21_ i22_ i23_ u24_ i25_ i26_) fun d27_ => some (Out.mk false V.junk d27_ [] 0)) fun d14_ => some (Out.mk false V.junk d14_ [] 0) :=
  (run_step ..).trans (by kernel_rfl)
theorem q7_0_eq (Γ : Bool → SemL) (n1 : Nat) (r0 : List (List D)) (r1 : List (List D)) (x2 : Int) (x3 : Int) (s4 : ByteArray) (r5 : List (List D)) (r6 : List (List D)) (r7 : List (List D))
  (x8 : Int) (x9 : Int) (x10 : Int) (s11 : ByteArray) (x12 : Int) (x13 : Int) (x14 : Int) (x15 : Int) (s16 : ByteArray) (r17 : List (List D)) (r18 : List (List D)) (r19 : List (List D)) (x20
  : Int) (x21 : Int) (x22 : Int) (s23 : ByteArray) (x24 : Int) (x25 : Int) : q7_0 Γ n1 r0 r1 x2 x3 s4 r5 r6 r7 x8 x9 x10 s11 x12 x13 x14 x15 s16 r17 r18 r19 x20 x21 x22 s23 x24 x25 = bif x10
  == x22 && (beqL (Array.toList (ByteArray.data s11)) (Array.toList (ByteArray.data s23)) && (x12 == x24 && (x13 == x25 && true))) then bif Int.ofNat (List.length r0) == 0 then bif Int.ofNat
  (List.length r1) == 0 then r_oB (Γ false 13 [V.agg [X.d (D.int IntKind.i64 x2), X.d (D.int IntKind.i64 x3), X.d (D.str s4), X.d (D.list 1 r5), X.d (D.list 1 r6), X.d (D.list 8 r7), X.d
  (D.int IntKind.i64 x8), X.d (D.int IntKind.i64 x9)], V.agg [X.d (D.int IntKind.i64 x14), X.d (D.int IntKind.i64 x15), X.d (D.str s16), X.d (D.list 1 r17), X.d (D.list 1 r18), X.d (D.list 8
  r19), X.d (D.int IntKind.i64 x20), X.d (D.int IntKind.i64 x21)]] []) (fun c0_ => bif c0_ then r_oB (Γ false 10 [] []) (fun c2_ => some (Out.mk true (V.one (X.d (D.bool c2_))) D.junk [] 0))
  fun d3_ => some (Out.mk false V.junk d3_ [] 0) else some (Out.mk true (V.one (X.d (D.bool false))) D.junk [] 0)) fun d1_ => some (Out.mk false V.junk d1_ [] 0) else some (Out.mk true (V.one
  (X.d (D.bool false))) D.junk [] 0) else some (Out.mk true (V.one (X.d (D.bool false))) D.junk [] 0) else some (Out.mk true (V.one (X.d (D.bool false))) D.junk [] 0) := (Jn_step ..).trans
  (by kernel_rfl)
theorem e13_eq (Γ : Bool → SemL) (n1 : Nat) (x0 : Int) (x1 : Int) (s2 : ByteArray) (r3 : List (List D)) (r4 : List (List D)) (r5 : List (List D)) (x6 : Int) (x7 : Int) (x8 : Int) (x9 : Int)
  (s10 : ByteArray) (r11 : List (List D)) (r12 : List (List D)) (r13 : List (List D)) (x14 : Int) (x15 : Int) : e13 Γ n1 x0 x1 s2 r3 r4 r5 x6 x7 x8 x9 s10 r11 r12 r13 x14 x15 = bif x6 != x14
  then some (Out.mk true (V.one (X.d (D.bool false))) D.junk [] 0) else bif x7 != x15 then some (Out.mk true (V.one (X.d (D.bool false))) D.junk [] 0) else bif x0 != x8 then some (Out.mk true
  (V.one (X.d (D.bool false))) D.junk [] 0) else bif x1 != x9 then some (Out.mk true (V.one (X.d (D.bool false))) D.junk [] 0) else bif !beqL (Array.toList (ByteArray.data s2)) (Array.toList
  (ByteArray.data s10)) then some (Out.mk true (V.one (X.d (D.bool false))) D.junk [] 0) else bif Int.ofNat (List.length r3) != Int.ofNat (List.length r11) then some (Out.mk true (V.one (X.d
  (D.bool false))) D.junk [] 0) else bif Int.ofNat (List.length r4) != Int.ofNat (List.length r12) then some (Out.mk true (V.one (X.d (D.bool false))) D.junk [] 0) else bif Int.ofNat
  (List.length r5) != Int.ofNat (List.length r13) then some (Out.mk true (V.one (X.d (D.bool false))) D.junk [] 0) else q13_0 Γ n1 x0 x1 s2 r3 r4 r5 x6 x7 x8 x9 s10 r11 r12 r13 x14 x15 :=
  (run_step ..).trans (by kernel_rfl)
theorem q13_0_eq (Γ : Bool → SemL) (n1 : Nat) (x0 : Int) (x1 : Int) (s2 : ByteArray) (r3 : List (List D)) (r4 : List (List D)) (r5 : List (List D)) (x6 : Int) (x7 : Int) (x8 : Int) (x9 : Int)
  (s10 : ByteArray) (r11 : List (List D)) (r12 : List (List D)) (r13 : List (List D)) (x14 : Int) (x15 : Int) : q13_0 Γ n1 x0 x1 s2 r3 r4 r5 x6 x7 x8 x9 s10 r11 r12 r13 x14 x15 = l13_0 n1 Γ
  n1 0 x0 x1 s2 r3 r4 r5 x6 x7 x8 x9 s10 r11 r12 r13 x14 x15 := (Jn_step ..).trans (by kernel_rfl)
theorem l13_0_eq (n0 : Nat) (Γ : Bool → SemL) (n2 : Nat) (x0 : Int) (x1 : Int) (x2 : Int) (s3 : ByteArray) (r4 : List (List D)) (r5 : List (List D)) (r6 : List (List D)) (x7 : Int) (x8 : Int)
  (x9 : Int) (x10 : Int) (s11 : ByteArray) (r12 : List (List D)) (r13 : List (List D)) (r14 : List (List D)) (x15 : Int) (x16 : Int) : l13_0 (n0 + 1) Γ n2 x0 x1 x2 s3 r4 r5 r6 x7 x8 x9 x10
  s11 r12 r13 r14 x15 x16 = bif decide (x0 < Int.ofNat (List.length r4)) then q13_1 Γ n0 n2 x0 x1 x2 s3 r4 r5 r6 x7 x8 x9 x10 s11 r12 r13 r14 x15 x16 else q13_3 Γ n2 x1 x2 s3 r4 r5 r6 x7 x8
  x9 x10 s11 r12 r13 r14 x15 x16 := (loop_step ..).trans (by kernel_rfl)
theorem q13_1_eq (Γ : Bool → SemL) (n1 : Nat) (n2 : Nat) (x0 : Int) (x1 : Int) (x2 : Int) (s3 : ByteArray) (r4 : List (List D)) (r5 : List (List D)) (r6 : List (List D)) (x7 : Int) (x8 : Int)
  (x9 : Int) (x10 : Int) (s11 : ByteArray) (r12 : List (List D)) (r13 : List (List D)) (r14 : List (List D)) (x15 : Int) (x16 : Int) : q13_1 Γ n1 n2 x0 x1 x2 s3 r4 r5 r6 x7 x8 x9 x10 s11 r12
  r13 r14 x15 x16 = bif decide (0 ≤ x0) && decide (x0 < Int.ofNat (List.length r4)) then bif decide (0 ≤ x0) && decide (x0 < Int.ofNat (List.length r12)) then bif D.isStr (List.getD
  (List.getD r4 (Int.toNat x0) []) 0 D.junk) then bif D.isStr (List.getD (List.getD r12 (Int.toNat x0) []) 0 D.junk) then bif !beqL (Array.toList (ByteArray.data (D.bytes (List.getD
  (List.getD r4 (Int.toNat x0) []) 0 D.junk)))) (Array.toList (ByteArray.data (D.bytes (List.getD (List.getD r12 (Int.toNat x0) []) 0 D.junk)))) then some (Out.mk true (V.one (X.d (D.bool
  false))) D.junk [] 0) else q13_2 Γ n1 n2 x0 x1 x2 s3 r4 r5 r6 x7 x8 x9 x10 s11 r12 r13 r14 x15 x16 else none else none else none else none := (Jn_step ..).trans (by kernel_rfl)
theorem q13_3_eq (Γ : Bool → SemL) (n1 : Nat) (x0 : Int) (x1 : Int) (s2 : ByteArray) (r3 : List (List D)) (r4 : List (List D)) (r5 : List (List D)) (x6 : Int) (x7 : Int) (x8 : Int) (x9 : Int)
  (s10 : ByteArray) (r11 : List (List D)) (r12 : List (List D)) (r13 : List (List D)) (x14 : Int) (x15 : Int) : q13_3 Γ n1 x0 x1 s2 r3 r4 r5 x6 x7 x8 x9 s10 r11 r12 r13 x14 x15 = l13_1 n1 Γ
  n1 0 x0 x1 s2 r3 r4 r5 x6 x7 x8 x9 s10 r11 r12 r13 x14 x15 := (Jn_step ..).trans (by kernel_rfl)
theorem q13_2_eq (Γ : Bool → SemL) (n1 : Nat) (n2 : Nat) (x0 : Int) (x1 : Int) (x2 : Int) (s3 : ByteArray) (r4 : List (List D)) (r5 : List (List D)) (r6 : List (List D)) (x7 : Int) (x8 : Int)
  (x9 : Int) (x10 : Int) (s11 : ByteArray) (r12 : List (List D)) (r13 : List (List D)) (r14 : List (List D)) (x15 : Int) (x16 : Int) : q13_2 Γ n1 n2 x0 x1 x2 s3 r4 r5 r6 x7 x8 x9 x10 s11 r12
  r13 r14 x15 x16 = l13_0 n1 Γ n2 (IntKind.wrap IntKind.i64 (x0 + 1)) x1 x2 s3 r4 r5 r6 x7 x8 x9 x10 s11 r12 r13 r14 x15 x16 := (Jn_step ..).trans (by kernel_rfl)
theorem l13_1_eq (n0 : Nat) (Γ : Bool → SemL) (n2 : Nat) (x0 : Int) (x1 : Int) (x2 : Int) (s3 : ByteArray) (r4 : List (List D)) (r5 : List (List D)) (r6 : List (List D)) (x7 : Int) (x8 : Int)
  (x9 : Int) (x10 : Int) (s11 : ByteArray) (r12 : List (List D)) (r13 : List (List D)) (r14 : List (List D)) (x15 : Int) (x16 : Int) : l13_1 (n0 + 1) Γ n2 x0 x1 x2 s3 r4 r5 r6 x7 x8 x9 x10
  s11 r12 r13 r14 x15 x16 = bif decide (x0 < Int.ofNat (List.length r5)) then q13_4 Γ n0 n2 x0 x1 x2 s3 r4 r5 r6 x7 x8 x9 x10 s11 r12 r13 r14 x15 x16 else q13_6 Γ n2 x1 x2 s3 r4 r5 r6 x7 x8
  x9 x10 s11 r12 r13 r14 x15 x16 := (loop_step ..).trans (by kernel_rfl)
theorem q13_4_eq (Γ : Bool → SemL) (n1 : Nat) (n2 : Nat) (x0 : Int) (x1 : Int) (x2 : Int) (s3 : ByteArray) (r4 : List (List D)) (r5 : List (List D)) (r6 : List (List D)) (x7 : Int) (x8 : Int)
  (x9 : Int) (x10 : Int) (s11 : ByteArray) (r12 : List (List D)) (r13 : List (List D)) (r14 : List (List D)) (x15 : Int) (x16 : Int) : q13_4 Γ n1 n2 x0 x1 x2 s3 r4 r5 r6 x7 x8 x9 x10 s11 r12
  r13 r14 x15 x16 = bif decide (0 ≤ x0) && decide (x0 < Int.ofNat (List.length r5)) then bif decide (0 ≤ x0) && decide (x0 < Int.ofNat (List.length r13)) then bif D.isInt IntKind.i64
  (List.getD (List.getD r5 (Int.toNat x0) []) 0 D.junk) then bif D.isInt IntKind.i64 (List.getD (List.getD r13 (Int.toNat x0) []) 0 D.junk) then bif D.num (List.getD (List.getD r5 (Int.toNat
  x0) []) 0 D.junk) != D.num (List.getD (List.getD r13 (Int.toNat x0) []) 0 D.junk) then some (Out.mk true (V.one (X.d (D.bool false))) D.junk [] 0) else q13_5 Γ n1 n2 x0 x1 x2 s3 r4 r5 r6 x7
  x8 x9 x10 s11 r12 r13 r14 x15 x16 else none else none else none else none := (Jn_step ..).trans (by kernel_rfl)
theorem q13_6_eq (Γ : Bool → SemL) (n1 : Nat) (x0 : Int) (x1 : Int) (s2 : ByteArray) (r3 : List (List D)) (r4 : List (List D)) (r5 : List (List D)) (x6 : Int) (x7 : Int) (x8 : Int) (x9 : Int)
  (s10 : ByteArray) (r11 : List (List D)) (r12 : List (List D)) (r13 : List (List D)) (x14 : Int) (x15 : Int) : q13_6 Γ n1 x0 x1 s2 r3 r4 r5 x6 x7 x8 x9 s10 r11 r12 r13 x14 x15 = l13_2 n1 Γ
  n1 0 x0 x1 s2 r3 r4 r5 x6 x7 x8 x9 s10 r11 r12 r13 x14 x15 := (Jn_step ..).trans (by kernel_rfl)
theorem q13_5_eq (Γ : Bool → SemL) (n1 : Nat) (n2 : Nat) (x0 : Int) (x1 : Int) (x2 : Int) (s3 : ByteArray) (r4 : List (List D)) (r5 : List (List D)) (r6 : List (List D)) (x7 : Int) (x8 : Int)
  (x9 : Int) (x10 : Int) (s11 : ByteArray) (r12 : List (List D)) (r13 : List (List D)) (r14 : List (List D)) (x15 : Int) (x16 : Int) : q13_5 Γ n1 n2 x0 x1 x2 s3 r4 r5 r6 x7 x8 x9 x10 s11 r12
  r13 r14 x15 x16 = l13_1 n1 Γ n2 (IntKind.wrap IntKind.i64 (x0 + 1)) x1 x2 s3 r4 r5 r6 x7 x8 x9 x10 s11 r12 r13 r14 x15 x16 := (Jn_step ..).trans (by kernel_rfl)
theorem l13_2_eq (n0 : Nat) (Γ : Bool → SemL) (n2 : Nat) (x0 : Int) (x1 : Int) (x2 : Int) (s3 : ByteArray) (r4 : List (List D)) (r5 : List (List D)) (r6 : List (List D)) (x7 : Int) (x8 : Int)
  (x9 : Int) (x10 : Int) (s11 : ByteArray) (r12 : List (List D)) (r13 : List (List D)) (r14 : List (List D)) (x15 : Int) (x16 : Int) : l13_2 (n0 + 1) Γ n2 x0 x1 x2 s3 r4 r5 r6 x7 x8 x9 x10
  s11 r12 r13 r14 x15 x16 = bif decide (x0 < Int.ofNat (List.length r6)) then q13_7 Γ n0 n2 x0 x1 x2 s3 r4 r5 r6 x7 x8 x9 x10 s11 r12 r13 r14 x15 x16 else q13_9 Γ n2 := (loop_step ..).trans
  (by kernel_rfl)
theorem q13_7_eq (Γ : Bool → SemL) (n1 : Nat) (n2 : Nat) (x0 : Int) (x1 : Int) (x2 : Int) (s3 : ByteArray) (r4 : List (List D)) (r5 : List (List D)) (r6 : List (List D)) (x7 : Int) (x8 : Int)
  (x9 : Int) (x10 : Int) (s11 : ByteArray) (r12 : List (List D)) (r13 : List (List D)) (r14 : List (List D)) (x15 : Int) (x16 : Int) : q13_7 Γ n1 n2 x0 x1 x2 s3 r4 r5 r6 x7 x8 x9 x10 s11 r12
  r13 r14 x15 x16 = bif decide (0 ≤ x0) && decide (x0 < Int.ofNat (List.length r6)) then bif decide (0 ≤ x0) && decide (x0 < Int.ofNat (List.length r14)) then r_oB (Γ false 13 [V.agg [X.d
  (List.getD (List.getD r6 (Int.toNat x0) []) 0 D.junk), X.d (List.getD (List.getD r6 (Int.toNat x0) []) 1 D.junk), X.d (List.getD (List.getD r6 (Int.toNat x0) []) 2 D.junk), X.d (List.getD
  (List.getD r6 (Int.toNat x0) []) 3 D.junk), X.d (List.getD (List.getD r6 (Int.toNat x0) []) 4 D.junk), X.d (List.getD (List.getD r6 (Int.toNat x0) []) 5 D.junk), X.d (List.getD (List.getD
  r6 (Int.toNat x0) []) 6 D.junk), X.d (List.getD (List.getD r6 (Int.toNat x0) []) 7 D.junk)], V.agg [X.d (List.getD (List.getD r14 (Int.toNat x0) []) 0 D.junk), X.d (List.getD (List.getD r14
  (Int.toNat x0) []) 1 D.junk), X.d (List.getD (List.getD r14 (Int.toNat x0) []) 2 D.junk), X.d (List.getD (List.getD r14 (Int.toNat x0) []) 3 D.junk), X.d (List.getD (List.getD r14
  (Int.toNat x0) []) 4 D.junk), X.d (List.getD (List.getD r14 (Int.toNat x0) []) 5 D.junk), X.d (List.getD (List.getD r14 (Int.toNat x0) []) 6 D.junk), X.d (List.getD (List.getD r14
  (Int.toNat x0) []) 7 D.junk)]] []) (fun c0_ => bif !c0_ then some (Out.mk true (V.one (X.d (D.bool false))) D.junk [] 0) else q13_8 Γ n1 n2 x0 x1 x2 s3 r4 r5 r6 x7 x8 x9 x10 s11 r12 r13 r14
  x15 x16) fun d1_ => some (Out.mk false V.junk d1_ [] 0) else none else none := (Jn_step ..).trans (by kernel_rfl)
theorem q13_9_eq (Γ : Bool → SemL) (n1 : Nat) : q13_9 Γ n1 = some (Out.mk true (V.one (X.d (D.bool true))) D.junk [] 0) := (Jn_step ..).trans (by kernel_rfl)
theorem q13_8_eq (Γ : Bool → SemL) (n1 : Nat) (n2 : Nat) (x0 : Int) (x1 : Int) (x2 : Int) (s3 : ByteArray) (r4 : List (List D)) (r5 : List (List D)) (r6 : List (List D)) (x7 : Int) (x8 : Int)
  (x9 : Int) (x10 : Int) (s11 : ByteArray) (r12 : List (List D)) (r13 : List (List D)) (r14 : List (List D)) (x15 : Int) (x16 : Int) : q13_8 Γ n1 n2 x0 x1 x2 s3 r4 r5 r6 x7 x8 x9 x10 s11 r12
  r13 r14 x15 x16 = l13_2 n1 Γ n2 (IntKind.wrap IntKind.i64 (x0 + 1)) x1 x2 s3 r4 r5 r6 x7 x8 x9 x10 s11 r12 r13 r14 x15 x16 := (Jn_step ..).trans (by kernel_rfl)
theorem call7 (s0 : ByteArray) {o : Out} (h : Ev (fun _ k n => e7 (Ak k) n s0) o) : Cal 7 [V.one (X.d (D.str s0))] [] o := Ev.call (E := fun Γ n1 => e7 Γ n1 s0) (fun k => call_step (by
  kernel_rfl) rfl) h
theorem call13 (x0 : Int) (x1 : Int) (s2 : ByteArray) (r3 : List (List D)) (r4 : List (List D)) (r5 : List (List D)) (x6 : Int) (x7 : Int) (x8 : Int) (x9 : Int) (s10 : ByteArray) (r11 : List
  (List D)) (r12 : List (List D)) (r13 : List (List D)) (x14 : Int) (x15 : Int) {o : Out} (h : Ev (fun _ k n => e13 (Ak k) n x0 x1 s2 r3 r4 r5 x6 x7 x8 x9 s10 r11 r12 r13 x14 x15) o) : Cal 13
  [V.agg [X.d (D.int IntKind.i64 x0), X.d (D.int IntKind.i64 x1), X.d (D.str s2), X.d (D.list 1 r3), X.d (D.list 1 r4), X.d (D.list 8 r5), X.d (D.int IntKind.i64 x6), X.d (D.int IntKind.i64
  x7)], V.agg [X.d (D.int IntKind.i64 x8), X.d (D.int IntKind.i64 x9), X.d (D.str s10), X.d (D.list 1 r11), X.d (D.list 1 r12), X.d (D.list 8 r13), X.d (D.int IntKind.i64 x14), X.d (D.int
  IntKind.i64 x15)]] [] o := Ev.call (E := fun Γ n1 => e13 Γ n1 x0 x1 s2 r3 r4 r5 x6 x7 x8 x9 s10 r11 r12 r13 x14 x15) (fun k => call_step (by kernel_rfl) rfl) h
end Go.Proofs.Ytbmcafehpgimfaa.Ps
