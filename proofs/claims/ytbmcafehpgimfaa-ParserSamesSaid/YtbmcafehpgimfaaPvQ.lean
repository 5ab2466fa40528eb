/- What the pieces of the functions do, as functions of their data. Printed by pack4.py. -/
import Derived.Test.YtbmcafehpgimfaaPv0
namespace Go.Proofs.Ytbmcafehpgimfaa.Ps
set_option maxHeartbeats 0
set_option maxRecDepth 100000
set_option linter.unusedVariables false
open Go Go.RowKit
open Go.IntKind renaming i64 → iK, u8 → uK
noncomputable def e16 (Γ : Bool → SemL) (n1 : Nat) (x0 x1 : Int) (s2 : ByteArray) (r3 r4 r5 : List (List D)) (x6 x7 x8 x9 : Int) (s10 : ByteArray) (r11 r12 r13 : List (List D)) (x14 x15 : Int) : Option Out := runF Γ shp rc false (shp 16) sf16 n1 [V.agg [X.d (D.int
  iK x0), X.d (D.int iK x1), X.d (D.str s2), X.d (D.list 1 r3), X.d (D.list 1 r4), X.d (D.list 8 r5), X.d (D.int iK x6), X.d (D.int iK x7)], V.agg [X.d
  (D.int iK x8), X.d (D.int iK x9), X.d (D.str s10), X.d (D.list 1 r11), X.d (D.list 1 r12), X.d (D.list 8 r13), X.d (D.int iK x14), X.d (D.int iK x15)]]
  []
noncomputable def e18 (Γ : Bool → SemL) (n1 : Nat) (r0 r1 : List (List D)) (x2 x3 : Int) (s4 : ByteArray) (r5 r6 r7 : List (List D)) (x8 x9 : Int) (r10 r11 : List (List D)) (x12 x13 : Int) (s14 : ByteArray) (r15 r16 r17 : List (List D)) (x18 x19 : Int) : Option Out := runF Γ shp rc false (shp 18) sf18 n1 [V.agg [X.d (D.list 5 r0), X.d (D.list 14 r1), X.d (D.int iK x2), X.d (D.int iK x3), X.d (D.str s4), X.d
  (D.list 1 r5), X.d (D.list 1 r6), X.d (D.list 8 r7), X.d (D.int iK x8), X.d (D.int iK x9)], V.agg [X.d (D.list 5 r10), X.d (D.list 14 r11), X.d (D.int iK x12),
  X.d (D.int iK x13), X.d (D.str s14), X.d (D.list 1 r15), X.d (D.list 1 r16), X.d (D.list 8 r17), X.d (D.int iK x18), X.d (D.int iK x19)]] []
noncomputable def e35 (Γ : Bool → SemL) (n1 : Nat) (r0 r1 : List (List D)) : Option Out := runF Γ shp rc false (shp 35) sf35 n1 [V.one (X.d (D.list 1 r0)), V.one (X.d
  (D.list 1 r1))] []
noncomputable def e36 (Γ : Bool → SemL) (n1 : Nat) (r0 r1 : List (List D)) : Option Out := runF Γ shp rc false (shp 36) sf36 n1 [V.one (X.d (D.list 1 r0)), V.one (X.d
  (D.list 1 r1))] []
noncomputable def q16_0 (Γ : Bool → SemL) (n1 : Nat) (x0 x1 : Int) (s2 : ByteArray) (r3 r4 r5 : List (List D)) (x6 x7 x8 x9 : Int) (s10 : ByteArray) (r11 r12 r13 : List (List D)) (x14 x15 : Int) : Option Out := Jn (Γ false) shp n1 j16_0 (St.mk [(2, V.one (X.ptr 0 0)),
  (3, V.one (X.ptr 1 0))] [(0, Blk.mk [Lf.int iK, Lf.int iK, Lf.str, Lf.lst 1, Lf.lst 1, Lf.lst 8, Lf.int iK, Lf.int iK] [X.d (D.int iK x0), X.d
  (D.int iK x1), X.d (D.str s2), X.d (D.list 1 r3), X.d (D.list 1 r4), X.d (D.list 8 r5), X.d (D.int iK x6), X.d (D.int iK x7)]), (1, Blk.mk [Lf.int iK,
  Lf.int iK, Lf.str, Lf.lst 1, Lf.lst 1, Lf.lst 8, Lf.int iK, Lf.int iK] [X.d (D.int iK x8), X.d (D.int iK x9), X.d (D.str s10), X.d (D.list 1
  r11), X.d (D.list 1 r12), X.d (D.list 8 r13), X.d (D.int iK x14), X.d (D.int iK x15)])] [] 2 0 0 []) (finK (Γ true) rc false (shp 16) (SFunc.results sf16) 0)
noncomputable def e42 (Γ : Bool → SemL) (n1 : Nat) (r0 r1 : List (List D)) : Option Out := runF Γ shp rc false (shp 42) sf42 n1 [V.one (X.d (D.list 5 r0)), V.one (X.d
  (D.list 5 r1))] []
noncomputable def q18_0 (Γ : Bool → SemL) (n1 : Nat) (r0 r1 : List (List D)) (x2 x3 : Int) (s4 : ByteArray) (r5 r6 r7 : List (List D)) (x8 x9 : Int) (r10 r11 : List (List D)) (x12 x13 : Int) (s14 : ByteArray) (r15 r16 r17 : List (List D)) (x18 x19 : Int) : Option Out := Jn (Γ false) shp n1 j18_0 (St.mk [(2, V.one (X.ptr 0 0)), (3, V.one (X.ptr 1 0))] [(0, Blk.mk [Lf.lst 5, Lf.lst 14, Lf.int iK, Lf.int
  iK, Lf.str, Lf.lst 1, Lf.lst 1, Lf.lst 8, Lf.int iK, Lf.int iK] [X.d (D.list 5 r0), X.d (D.list 14 r1), X.d (D.int iK x2), X.d (D.int iK x3),
  X.d (D.str s4), X.d (D.list 1 r5), X.d (D.list 1 r6), X.d (D.list 8 r7), X.d (D.int iK x8), X.d (D.int iK x9)]), (1, Blk.mk [Lf.lst 5, Lf.lst 14, Lf.int iK,
  Lf.int iK, Lf.str, Lf.lst 1, Lf.lst 1, Lf.lst 8, Lf.int iK, Lf.int iK] [X.d (D.list 5 r10), X.d (D.list 14 r11), X.d (D.int iK x12), X.d (D.int
  iK x13), X.d (D.str s14), X.d (D.list 1 r15), X.d (D.list 1 r16), X.d (D.list 8 r17), X.d (D.int iK x18), X.d (D.int iK x19)])] [] 2 0 0 []) (finK (Γ true) rc
  false (shp 18) (SFunc.results sf18) 0)
noncomputable def q35_0 (Γ : Bool → SemL) (n1 : Nat) (r0 r1 : List (List D)) : Option Out := Jn (Γ false) shp n1 j35_0 (St.mk [(0, V.one (X.d (D.list 1 r0))), (1, V.one (X.d
  (D.list 1 r1)))] [] [] 0 0 0 []) (finK (Γ true) rc false (shp 35) (SFunc.results sf35) 0)
noncomputable def q36_0 (Γ : Bool → SemL) (n1 : Nat) (r0 r1 : List (List D)) : Option Out := Jn (Γ false) shp n1 j36_0 (St.mk [(0, V.one (X.d (D.list 1 r0))), (1, V.one (X.d
  (D.list 1 r1)))] [] [] 0 0 0 []) (finK (Γ true) rc false (shp 36) (SFunc.results sf36) 0)
noncomputable def l16_0 (n0 : Nat) (Γ : Bool → SemL) (n2 : Nat) (x0 x1 x2 : Int) (s3 : ByteArray) (r4 r5 r6 : List (List D)) (x7 x8 x9 x10 : Int) (s11 : ByteArray) (r12 r13 r14 : List (List D)) (x15 x16 : Int) : Option Out := loopK (Γ false) shp n0 [2, 3, 5]
  lb16_0 (St.mk [(2, V.one (X.ptr 0 0)), (3, V.one (X.ptr 1 0)), (5, V.one (X.d (D.int iK x0)))] [(0, Blk.mk [Lf.int iK, Lf.int iK, Lf.str, Lf.lst 1, Lf.lst 1,
  Lf.lst 8, Lf.int iK, Lf.int iK] [X.d (D.int iK x1), X.d (D.int iK x2), X.d (D.str s3), X.d (D.list 1 r4), X.d (D.list 1 r5), X.d (D.list 8 r6), X.d
  (D.int iK x7), X.d (D.int iK x8)]), (1, Blk.mk [Lf.int iK, Lf.int iK, Lf.str, Lf.lst 1, Lf.lst 1, Lf.lst 8, Lf.int iK, Lf.int iK] [X.d
  (D.int iK x9), X.d (D.int iK x10), X.d (D.str s11), X.d (D.list 1 r12), X.d (D.list 1 r13), X.d (D.list 8 r14), X.d (D.int iK x15), X.d (D.int iK x16)])]
  [] 2 0 0 []) (kBlk 0 (kSeq (some []) (fun s K => Jn (Γ false) shp n2 j16_3 s K) (finK (Γ true) rc false (shp 16) (SFunc.results sf16) 0)))
noncomputable def q42_0 (Γ : Bool → SemL) (n1 : Nat) (r0 r1 : List (List D)) : Option Out := Jn (Γ false) shp n1 j42_0 (St.mk [(0, V.one (X.d (D.list 5 r0))), (1, V.one (X.d
  (D.list 5 r1)))] [] [] 0 0 0 []) (finK (Γ true) rc false (shp 42) (SFunc.results sf42) 0)
noncomputable def l18_0 (n0 : Nat) (Γ : Bool → SemL) (n2 : Nat) (x0 : Int) (r1 r2 : List (List D)) (x3 x4 : Int) (s5 : ByteArray) (r6 r7 r8 : List (List D)) (x9 x10 : Int) (r11 r12 : List (List D)) (x13 x14 : Int) (s15 : ByteArray) (r16 r17 r18 : List (List D)) (x19 x20 : Int) : Option Out := loopK (Γ false) shp n0 [2, 3, 5] lb18_0 (St.mk [(2, V.one (X.ptr 0 0)), (3, V.one (X.ptr 1 0)), (5, V.one (X.d (D.int iK
  x0)))] [(0, Blk.mk [Lf.lst 5, Lf.lst 14, Lf.int iK, Lf.int iK, Lf.str, Lf.lst 1, Lf.lst 1, Lf.lst 8, Lf.int iK, Lf.int iK] [X.d (D.list 5 r1), X.d
  (D.list 14 r2), X.d (D.int iK x3), X.d (D.int iK x4), X.d (D.str s5), X.d (D.list 1 r6), X.d (D.list 1 r7), X.d (D.list 8 r8), X.d (D.int iK x9), X.d (D.int
  iK x10)]), (1, Blk.mk [Lf.lst 5, Lf.lst 14, Lf.int iK, Lf.int iK, Lf.str, Lf.lst 1, Lf.lst 1, Lf.lst 8, Lf.int iK, Lf.int iK] [X.d (D.list 5
  r11), X.d (D.list 14 r12), X.d (D.int iK x13), X.d (D.int iK x14), X.d (D.str s15), X.d (D.list 1 r16), X.d (D.list 1 r17), X.d (D.list 8 r18), X.d (D.int iK
  x19), X.d (D.int iK x20)])] [] 2 0 0 []) (kBlk 0 (kSeq (some [2, 3]) (fun s K => Jn (Γ false) shp n2 j18_3 s K) (finK (Γ true) rc false (shp 18) (SFunc.results sf18) 0)))
noncomputable def l35_0 (n0 : Nat) (Γ : Bool → SemL) (n2 : Nat) (r0 r1 : List (List D)) (x2 : Int) : Option Out := loopK (Γ false) shp n0 [0, 1, 5] lb35_0 (St.mk [(0, V.one
  (X.d (D.list 1 r0))), (1, V.one (X.d (D.list 1 r1))), (5, V.one (X.d (D.int iK x2)))] [] [] 0 0 0 []) (kBlk 0 (kSeq (some []) (fun s K => Jn (Γ false) shp n2 j35_3 s K) (finK (Γ
  true) rc false (shp 35) (SFunc.results sf35) 0)))
noncomputable def l36_0 (n0 : Nat) (Γ : Bool → SemL) (n2 : Nat) (r0 r1 : List (List D)) (x2 : Int) : Option Out := loopK (Γ false) shp n0 [0, 1, 5] lb36_0 (St.mk [(0, V.one
  (X.d (D.list 1 r0))), (1, V.one (X.d (D.list 1 r1))), (5, V.one (X.d (D.int iK x2)))] [] [] 0 0 0 []) (kBlk 0 (kSeq (some []) (fun s K => Jn (Γ false) shp n2 j36_3 s K) (finK (Γ
  true) rc false (shp 36) (SFunc.results sf36) 0)))
noncomputable def q16_1 (Γ : Bool → SemL) (n1 : Nat) (n2 : Nat) (x0 x1 x2 : Int) (s3 : ByteArray) (r4 r5 r6 : List (List D)) (x7 x8 x9 x10 : Int) (s11 : ByteArray) (r12 r13 r14 : List (List D)) (x15 x16 : Int) : Option Out := Jn (Γ false) shp n1 j16_1 (St.mk
  [(2, V.one (X.ptr 0 0)), (3, V.one (X.ptr 1 0)), (5, V.one (X.d (D.int iK x0)))] [(0, Blk.mk [Lf.int iK, Lf.int iK, Lf.str, Lf.lst 1, Lf.lst 1, Lf.lst 8, Lf.int
  iK, Lf.int iK] [X.d (D.int iK x1), X.d (D.int iK x2), X.d (D.str s3), X.d (D.list 1 r4), X.d (D.list 1 r5), X.d (D.list 8 r6), X.d (D.int iK
  x7), X.d (D.int iK x8)]), (1, Blk.mk [Lf.int iK, Lf.int iK, Lf.str, Lf.lst 1, Lf.lst 1, Lf.lst 8, Lf.int iK, Lf.int iK] [X.d (D.int iK
  x9), X.d (D.int iK x10), X.d (D.str s11), X.d (D.list 1 r12), X.d (D.list 1 r13), X.d (D.list 8 r14), X.d (D.int iK x15), X.d (D.int iK x16)])] [] 2 0 0 [])
  (kLoop (loopK (Γ false) shp n1) [2, 3, 5] lb16_0 (kBlk 0 (kSeq (some []) (fun s K => Jn (Γ false) shp n2 j16_3 s K) (finK (Γ true) rc false (shp 16) (SFunc.results sf16) 0))))
noncomputable def q16_3 (Γ : Bool → SemL) (n1 : Nat) : Option Out := Jn (Γ false) shp n1 j16_3 (St.mk [] [] [] 0 0 0 []) (finK (Γ true) rc false (shp 16) (SFunc.results sf16) 0)
noncomputable def l42_0 (n0 : Nat) (Γ : Bool → SemL) (n2 : Nat) (r0 r1 : List (List D)) (x2 : Int) : Option Out := loopK (Γ false) shp n0 [0, 1, 5] lb42_0 (St.mk [(0, V.one
  (X.d (D.list 5 r0))), (1, V.one (X.d (D.list 5 r1))), (5, V.one (X.d (D.int iK x2)))] [] [] 0 0 0 []) (kBlk 0 (kSeq (some []) (fun s K => Jn (Γ false) shp n2 j42_3 s K) (finK (Γ
  true) rc false (shp 42) (SFunc.results sf42) 0)))
noncomputable def q18_1 (Γ : Bool → SemL) (n1 : Nat) (n2 : Nat) (x0 : Int) (r1 r2 : List (List D)) (x3 x4 : Int) (s5 : ByteArray) (r6 r7 r8 : List (List D)) (x9 x10 : Int) (r11 r12 : List (List D)) (x13 x14 : Int) (s15 : ByteArray) (r16 r17 r18 : List (List D)) (x19 x20 : Int) : Option Out := Jn (Γ false) shp n1 j18_1 (St.mk [(2, V.one (X.ptr 0 0)), (3, V.one (X.ptr 1 0)), (5, V.one (X.d (D.int iK x0)))] [(0,
  Blk.mk [Lf.lst 5, Lf.lst 14, Lf.int iK, Lf.int iK, Lf.str, Lf.lst 1, Lf.lst 1, Lf.lst 8, Lf.int iK, Lf.int iK] [X.d (D.list 5 r1), X.d (D.list 14 r2),
  X.d (D.int iK x3), X.d (D.int iK x4), X.d (D.str s5), X.d (D.list 1 r6), X.d (D.list 1 r7), X.d (D.list 8 r8), X.d (D.int iK x9), X.d (D.int iK x10)]),
  (1, Blk.mk [Lf.lst 5, Lf.lst 14, Lf.int iK, Lf.int iK, Lf.str, Lf.lst 1, Lf.lst 1, Lf.lst 8, Lf.int iK, Lf.int iK] [X.d (D.list 5 r11), X.d (D.list 14
  r12), X.d (D.int iK x13), X.d (D.int iK x14), X.d (D.str s15), X.d (D.list 1 r16), X.d (D.list 1 r17), X.d (D.list 8 r18), X.d (D.int iK x19), X.d (D.int
  iK x20)])] [] 2 0 0 []) (kLoop (loopK (Γ false) shp n1) [2, 3, 5] lb18_0 (kBlk 0 (kSeq (some [2, 3]) (fun s K => Jn (Γ false) shp n2 j18_3 s K) (finK (Γ true) rc false (shp 18)
  (SFunc.results sf18) 0))))
noncomputable def q18_3 (Γ : Bool → SemL) (n1 : Nat) (r0 r1 : List (List D)) (x2 x3 : Int) (s4 : ByteArray) (r5 r6 r7 : List (List D)) (x8 x9 : Int) (r10 r11 : List (List D)) (x12 x13 : Int) (s14 : ByteArray) (r15 r16 r17 : List (List D)) (x18 x19 : Int) : Option Out := Jn (Γ false) shp n1 j18_3 (St.mk [(2, V.one (X.ptr 0 0)), (3, V.one (X.ptr 1 0))] [(0, Blk.mk [Lf.lst 5, Lf.lst 14, Lf.int iK, Lf.int
  iK, Lf.str, Lf.lst 1, Lf.lst 1, Lf.lst 8, Lf.int iK, Lf.int iK] [X.d (D.list 5 r0), X.d (D.list 14 r1), X.d (D.int iK x2), X.d (D.int iK x3),
  X.d (D.str s4), X.d (D.list 1 r5), X.d (D.list 1 r6), X.d (D.list 8 r7), X.d (D.int iK x8), X.d (D.int iK x9)]), (1, Blk.mk [Lf.lst 5, Lf.lst 14, Lf.int iK,
  Lf.int iK, Lf.str, Lf.lst 1, Lf.lst 1, Lf.lst 8, Lf.int iK, Lf.int iK] [X.d (D.list 5 r10), X.d (D.list 14 r11), X.d (D.int iK x12), X.d (D.int
  iK x13), X.d (D.str s14), X.d (D.list 1 r15), X.d (D.list 1 r16), X.d (D.list 8 r17), X.d (D.int iK x18), X.d (D.int iK x19)])] [] 2 0 0 []) (finK (Γ true) rc
  false (shp 18) (SFunc.results sf18) 0)
noncomputable def q35_1 (Γ : Bool → SemL) (n1 : Nat) (n2 : Nat) (r0 r1 : List (List D)) (x2 : Int) : Option Out := Jn (Γ false) shp n1 j35_1 (St.mk [(0, V.one (X.d (D.list 1
  r0))), (1, V.one (X.d (D.list 1 r1))), (5, V.one (X.d (D.int iK x2)))] [] [] 0 0 0 []) (kLoop (loopK (Γ false) shp n1) [0, 1, 5] lb35_0 (kBlk 0 (kSeq (some []) (fun s K => Jn (Γ
  false) shp n2 j35_3 s K) (finK (Γ true) rc false (shp 35) (SFunc.results sf35) 0))))
noncomputable def q35_3 (Γ : Bool → SemL) (n1 : Nat) : Option Out := Jn (Γ false) shp n1 j35_3 (St.mk [] [] [] 0 0 0 []) (finK (Γ true) rc false (shp 35) (SFunc.results sf35) 0)
noncomputable def q36_1 (Γ : Bool → SemL) (n1 : Nat) (n2 : Nat) (r0 r1 : List (List D)) (x2 : Int) : Option Out := Jn (Γ false) shp n1 j36_1 (St.mk [(0, V.one (X.d (D.list 1
  r0))), (1, V.one (X.d (D.list 1 r1))), (5, V.one (X.d (D.int iK x2)))] [] [] 0 0 0 []) (kLoop (loopK (Γ false) shp n1) [0, 1, 5] lb36_0 (kBlk 0 (kSeq (some []) (fun s K => Jn (Γ
  false) shp n2 j36_3 s K) (finK (Γ true) rc false (shp 36) (SFunc.results sf36) 0))))
noncomputable def q36_3 (Γ : Bool → SemL) (n1 : Nat) : Option Out := Jn (Γ false) shp n1 j36_3 (St.mk [] [] [] 0 0 0 []) (finK (Γ true) rc false (shp 36) (SFunc.results sf36) 0)
noncomputable def q16_2 (Γ : Bool → SemL) (n1 : Nat) (n2 : Nat) (x0 x1 x2 : Int) (s3 : ByteArray) (r4 r5 r6 : List (List D)) (x7 x8 x9 x10 : Int) (s11 : ByteArray) (r12 r13 r14 : List (List D)) (x15 x16 : Int) : Option Out := Jn (Γ false) shp n1 j16_2 (St.mk
  [(2, V.one (X.ptr 0 0)), (3, V.one (X.ptr 1 0)), (5, V.one (X.d (D.int iK x0)))] [(0, Blk.mk [Lf.int iK, Lf.int iK, Lf.str, Lf.lst 1, Lf.lst 1, Lf.lst 8, Lf.int
  iK, Lf.int iK] [X.d (D.int iK x1), X.d (D.int iK x2), X.d (D.str s3), X.d (D.list 1 r4), X.d (D.list 1 r5), X.d (D.list 8 r6), X.d (D.int iK
  x7), X.d (D.int iK x8)]), (1, Blk.mk [Lf.int iK, Lf.int iK, Lf.str, Lf.lst 1, Lf.lst 1, Lf.lst 8, Lf.int iK, Lf.int iK] [X.d (D.int iK
  x9), X.d (D.int iK x10), X.d (D.str s11), X.d (D.list 1 r12), X.d (D.list 1 r13), X.d (D.list 8 r14), X.d (D.int iK x15), X.d (D.int iK x16)])] [] 2 0 0 [])
  (kLoop (loopK (Γ false) shp n1) [2, 3, 5] lb16_0 (kBlk 0 (kSeq (some []) (fun s K => Jn (Γ false) shp n2 j16_3 s K) (finK (Γ true) rc false (shp 16) (SFunc.results sf16) 0))))
noncomputable def q42_1 (Γ : Bool → SemL) (n1 : Nat) (n2 : Nat) (r0 r1 : List (List D)) (x2 : Int) : Option Out := Jn (Γ false) shp n1 j42_1 (St.mk [(0, V.one (X.d (D.list 5
  r0))), (1, V.one (X.d (D.list 5 r1))), (5, V.one (X.d (D.int iK x2)))] [] [] 0 0 0 []) (kLoop (loopK (Γ false) shp n1) [0, 1, 5] lb42_0 (kBlk 0 (kSeq (some []) (fun s K => Jn (Γ
  false) shp n2 j42_3 s K) (finK (Γ true) rc false (shp 42) (SFunc.results sf42) 0))))
noncomputable def q42_3 (Γ : Bool → SemL) (n1 : Nat) : Option Out := Jn (Γ false) shp n1 j42_3 (St.mk [] [] [] 0 0 0 []) (finK (Γ true) rc false (shp 42) (SFunc.results sf42) 0)
noncomputable def e43 (Γ : Bool → SemL) (n1 : Nat) (x0 : Int) (r1 : List (List D)) (x2 : Int) (r3 : List (List D)) : Option Out := runF Γ shp rc false (shp 43) sf43 n1 [V.agg [X.d (D.int
  iK x0), X.d (D.list 2 r1)], V.agg [X.d (D.int iK x2), X.d (D.list 2 r3)]] []
noncomputable def q18_2 (Γ : Bool → SemL) (n1 : Nat) (n2 : Nat) (x0 : Int) (r1 r2 : List (List D)) (x3 x4 : Int) (s5 : ByteArray) (r6 r7 r8 : List (List D)) (x9 x10 : Int) (r11 r12 : List (List D)) (x13 x14 : Int) (s15 : ByteArray) (r16 r17 r18 : List (List D)) (x19 x20 : Int) : Option Out := Jn (Γ false) shp n1 j18_2 (St.mk [(2, V.one (X.ptr 0 0)), (3, V.one (X.ptr 1 0)), (5, V.one (X.d (D.int iK x0)))] [(0,
  Blk.mk [Lf.lst 5, Lf.lst 14, Lf.int iK, Lf.int iK, Lf.str, Lf.lst 1, Lf.lst 1, Lf.lst 8, Lf.int iK, Lf.int iK] [X.d (D.list 5 r1), X.d (D.list 14 r2),
  X.d (D.int iK x3), X.d (D.int iK x4), X.d (D.str s5), X.d (D.list 1 r6), X.d (D.list 1 r7), X.d (D.list 8 r8), X.d (D.int iK x9), X.d (D.int iK x10)]),
  (1, Blk.mk [Lf.lst 5, Lf.lst 14, Lf.int iK, Lf.int iK, Lf.str, Lf.lst 1, Lf.lst 1, Lf.lst 8, Lf.int iK, Lf.int iK] [X.d (D.list 5 r11), X.d (D.list 14
  r12), X.d (D.int iK x13), X.d (D.int iK x14), X.d (D.str s15), X.d (D.list 1 r16), X.d (D.list 1 r17), X.d (D.list 8 r18), X.d (D.int iK x19), X.d (D.int
  iK x20)])] [] 2 0 0 []) (kLoop (loopK (Γ false) shp n1) [2, 3, 5] lb18_0 (kBlk 0 (kSeq (some [2, 3]) (fun s K => Jn (Γ false) shp n2 j18_3 s K) (finK (Γ true) rc false (shp 18)
  (SFunc.results sf18) 0))))
noncomputable def q35_2 (Γ : Bool → SemL) (n1 : Nat) (n2 : Nat) (r0 r1 : List (List D)) (x2 : Int) : Option Out := Jn (Γ false) shp n1 j35_2 (St.mk [(0, V.one (X.d (D.list 1
  r0))), (1, V.one (X.d (D.list 1 r1))), (5, V.one (X.d (D.int iK x2)))] [] [] 0 0 0 []) (kLoop (loopK (Γ false) shp n1) [0, 1, 5] lb35_0 (kBlk 0 (kSeq (some []) (fun s K => Jn (Γ
  false) shp n2 j35_3 s K) (finK (Γ true) rc false (shp 35) (SFunc.results sf35) 0))))
noncomputable def q36_2 (Γ : Bool → SemL) (n1 : Nat) (n2 : Nat) (r0 r1 : List (List D)) (x2 : Int) : Option Out := Jn (Γ false) shp n1 j36_2 (St.mk [(0, V.one (X.d (D.list 1
  r0))), (1, V.one (X.d (D.list 1 r1))), (5, V.one (X.d (D.int iK x2)))] [] [] 0 0 0 []) (kLoop (loopK (Γ false) shp n1) [0, 1, 5] lb36_0 (kBlk 0 (kSeq (some []) (fun s K => Jn (Γ
  false) shp n2 j36_3 s K) (finK (Γ true) rc false (shp 36) (SFunc.results sf36) 0))))
noncomputable def q42_2 (Γ : Bool → SemL) (n1 : Nat) (n2 : Nat) (r0 r1 : List (List D)) (x2 : Int) : Option Out := Jn (Γ false) shp n1 j42_2 (St.mk [(0, V.one (X.d (D.list 5
  r0))), (1, V.one (X.d (D.list 5 r1))), (5, V.one (X.d (D.int iK x2)))] [] [] 0 0 0 []) (kLoop (loopK (Γ false) shp n1) [0, 1, 5] lb42_0 (kBlk 0 (kSeq (some []) (fun s K => Jn (Γ
  false) shp n2 j42_3 s K) (finK (Γ true) rc false (shp 42) (SFunc.results sf42) 0))))
noncomputable def q43_0 (Γ : Bool → SemL) (n1 : Nat) (x0 : Int) (r1 : List (List D)) (x2 : Int) (r3 : List (List D)) : Option Out := Jn (Γ false) shp n1 j43_0 (St.mk [(2, V.one (X.ptr 0 0)),
  (3, V.one (X.ptr 1 0))] [(0, Blk.mk [Lf.int iK, Lf.lst 2] [X.d (D.int iK x0), X.d (D.list 2 r1)]), (1, Blk.mk [Lf.int iK, Lf.lst 2] [X.d (D.int iK x2),
  X.d (D.list 2 r3)])] [] 2 0 0 []) (finK (Γ true) rc false (shp 43) (SFunc.results sf43) 0)
noncomputable def l43_0 (n0 : Nat) (Γ : Bool → SemL) (n2 : Nat) (x0 x1 : Int) (r2 : List (List D)) (x3 : Int) (r4 : List (List D)) : Option Out := loopK (Γ false) shp n0 [2, 3, 5]
  lb43_0 (St.mk [(2, V.one (X.ptr 0 0)), (3, V.one (X.ptr 1 0)), (5, V.one (X.d (D.int iK x0)))] [(0, Blk.mk [Lf.int iK, Lf.lst 2] [X.d (D.int iK x1), X.d (D.list 2
  r2)]), (1, Blk.mk [Lf.int iK, Lf.lst 2] [X.d (D.int iK x3), X.d (D.list 2 r4)])] [] 2 0 0 []) (kBlk 0 (kSeq (some []) (fun s K => Jn (Γ false) shp n2 j43_3 s K) (finK (Γ
  true) rc false (shp 43) (SFunc.results sf43) 0)))
noncomputable def q43_1 (Γ : Bool → SemL) (n1 : Nat) (n2 : Nat) (x0 x1 : Int) (r2 : List (List D)) (x3 : Int) (r4 : List (List D)) : Option Out := Jn (Γ false) shp n1 j43_1 (St.mk
  [(2, V.one (X.ptr 0 0)), (3, V.one (X.ptr 1 0)), (5, V.one (X.d (D.int iK x0)))] [(0, Blk.mk [Lf.int iK, Lf.lst 2] [X.d (D.int iK x1), X.d (D.list 2 r2)]), (1,
  Blk.mk [Lf.int iK, Lf.lst 2] [X.d (D.int iK x3), X.d (D.list 2 r4)])] [] 2 0 0 []) (kLoop (loopK (Γ false) shp n1) [2, 3, 5] lb43_0 (kBlk 0 (kSeq (some []) (fun s K => Jn
  (Γ false) shp n2 j43_3 s K) (finK (Γ true) rc false (shp 43) (SFunc.results sf43) 0))))
noncomputable def q43_3 (Γ : Bool → SemL) (n1 : Nat) : Option Out := Jn (Γ false) shp n1 j43_3 (St.mk [] [] [] 0 0 0 []) (finK (Γ true) rc false (shp 43) (SFunc.results sf43) 0)
noncomputable def q43_2 (Γ : Bool → SemL) (n1 : Nat) (n2 : Nat) (x0 x1 : Int) (r2 : List (List D)) (x3 : Int) (r4 : List (List D)) : Option Out := Jn (Γ false) shp n1 j43_2 (St.mk
  [(2, V.one (X.ptr 0 0)), (3, V.one (X.ptr 1 0)), (5, V.one (X.d (D.int iK x0)))] [(0, Blk.mk [Lf.int iK, Lf.lst 2] [X.d (D.int iK x1), X.d (D.list 2 r2)]), (1,
  Blk.mk [Lf.int iK, Lf.lst 2] [X.d (D.int iK x3), X.d (D.list 2 r4)])] [] 2 0 0 []) (kLoop (loopK (Γ false) shp n1) [2, 3, 5] lb43_0 (kBlk 0 (kSeq (some []) (fun s K => Jn
  (Γ false) shp n2 j43_3 s K) (finK (Γ true) rc false (shp 43) (SFunc.results sf43) 0))))
theorem e16_eq (Γ : Bool → SemL) (n1 : Nat) (x0 x1 : Int) (s2 : ByteArray) (r3 r4 r5 : List (List D)) (x6 x7 x8 x9 : Int)
  (s10 : ByteArray) (r11 r12 r13 : List (List D)) (x14 x15 : Int) : e16 Γ n1 x0 x1 s2 r3 r4 r5 x6 x7 x8 x9 s10 r11 r12 r13 x14 x15 = bif x0 != x8
  then some (Out.mk true (V.one (X.d (D.bool false))) D.junk [] 0) else bif x1 != x9 then some (Out.mk true (V.one (X.d (D.bool false))) D.junk [] 0) else bif !beqL (Array.toList
  (ByteArray.data s2)) (Array.toList (ByteArray.data s10)) then some (Out.mk true (V.one (X.d (D.bool false))) D.junk [] 0) else r_oB (Γ false 35 [V.one (X.d (D.list 1 r3)), V.one (X.d
  (D.list 1 r11))] []) (fun c0_ => bif !c0_ then some (Out.mk true (V.one (X.d (D.bool false))) D.junk [] 0) else r_oB (Γ false 36 [V.one (X.d (D.list 1 r4)), V.one (X.d (D.list 1 r12))] [])
  (fun c2_ => bif !c2_ then some (Out.mk true (V.one (X.d (D.bool false))) D.junk [] 0) else bif Int.ofNat (List.length r5) != Int.ofNat (List.length r13) then some (Out.mk true (V.one (X.d
  (D.bool false))) D.junk [] 0) else q16_0 Γ n1 x0 x1 s2 r3 r4 r5 x6 x7 x8 x9 s10 r11 r12 r13 x14 x15) fun d3_ => some (Out.mk false V.junk d3_ [] 0)) fun d1_ => some (Out.mk false V.junk d1_
  [] 0) := (run_step ..).trans (by kernel_rfl)
theorem e18_eq (Γ : Bool → SemL) (n1 : Nat) (r0 r1 : List (List D)) (x2 x3 : Int) (s4 : ByteArray) (r5 r6 r7 : List (List D)) (x8 x9 : Int) (r10 r11 : List (List D)) (x12 x13 : Int) (s14 : ByteArray) (r15 r16 r17 : List (List D)) (x18 x19 : Int) : e18 Γ n1 r0 r1 x2 x3 s4 r5 r6 r7 x8 x9 r10 r11 x12 x13 s14 r15 r16 r17 x18 x19 = r_oB (Γ false 42 [V.one (X.d (D.list 5 r0)), V.one (X.d (D.list 5 r10))] []) (fun c0_ => bif !c0_
  then some (Out.mk true (V.one (X.d (D.bool false))) D.junk [] 0) else bif Int.ofNat (List.length r1) != Int.ofNat (List.length r11) then some (Out.mk true (V.one (X.d (D.bool false)))
  D.junk [] 0) else q18_0 Γ n1 r0 r1 x2 x3 s4 r5 r6 r7 x8 x9 r10 r11 x12 x13 s14 r15 r16 r17 x18 x19) fun d1_ => some (Out.mk false V.junk d1_ [] 0) := (run_step ..).trans (by kernel_rfl)
theorem e35_eq (Γ : Bool → SemL) (n1 : Nat) (r0 r1 : List (List D)) : e35 Γ n1 r0 r1 = bif Int.ofNat (List.length r0) != Int.ofNat (List.length r1) then some (Out.mk true
  (V.one (X.d (D.bool false))) D.junk [] 0) else q35_0 Γ n1 r0 r1 := (run_step ..).trans (by kernel_rfl)
theorem e36_eq (Γ : Bool → SemL) (n1 : Nat) (r0 r1 : List (List D)) : e36 Γ n1 r0 r1 = bif Int.ofNat (List.length r0) != Int.ofNat (List.length r1) then some (Out.mk true
  (V.one (X.d (D.bool false))) D.junk [] 0) else q36_0 Γ n1 r0 r1 := (run_step ..).trans (by kernel_rfl)
theorem q16_0_eq (Γ : Bool → SemL) (n1 : Nat) (x0 x1 : Int) (s2 : ByteArray) (r3 r4 r5 : List (List D)) (x6 x7 x8 x9 : Int)
  (s10 : ByteArray) (r11 r12 r13 : List (List D)) (x14 x15 : Int) : q16_0 Γ n1 x0 x1 s2 r3 r4 r5 x6 x7 x8 x9 s10 r11 r12 r13 x14 x15 = l16_0 n1 Γ
  n1 0 x0 x1 s2 r3 r4 r5 x6 x7 x8 x9 s10 r11 r12 r13 x14 x15 := (Jn_step ..).trans (by kernel_rfl)
theorem e42_eq (Γ : Bool → SemL) (n1 : Nat) (r0 r1 : List (List D)) : e42 Γ n1 r0 r1 = bif Int.ofNat (List.length r0) != Int.ofNat (List.length r1) then some (Out.mk true
  (V.one (X.d (D.bool false))) D.junk [] 0) else q42_0 Γ n1 r0 r1 := (run_step ..).trans (by kernel_rfl)
theorem q18_0_eq (Γ : Bool → SemL) (n1 : Nat) (r0 r1 : List (List D)) (x2 x3 : Int) (s4 : ByteArray) (r5 r6 r7 : List (List D))
  (x8 x9 : Int) (r10 r11 : List (List D)) (x12 x13 : Int) (s14 : ByteArray) (r15 r16 r17 : List (List D)) (x18 x19 : Int) : q18_0 Γ n1 r0 r1 x2 x3 s4 r5 r6 r7 x8 x9 r10 r11 x12 x13 s14 r15 r16 r17 x18 x19 = l18_0 n1 Γ n1 0 r0 r1 x2 x3 s4 r5 r6 r7 x8 x9 r10 r11 x12 x13 s14 r15 r16 r17 x18 x19 :=
  (Jn_step ..).trans (by kernel_rfl)
theorem q35_0_eq (Γ : Bool → SemL) (n1 : Nat) (r0 r1 : List (List D)) : q35_0 Γ n1 r0 r1 = l35_0 n1 Γ n1 r0 r1 0 := (Jn_step ..).trans (by kernel_rfl)
theorem q36_0_eq (Γ : Bool → SemL) (n1 : Nat) (r0 r1 : List (List D)) : q36_0 Γ n1 r0 r1 = l36_0 n1 Γ n1 r0 r1 0 := (Jn_step ..).trans (by kernel_rfl)
theorem l16_0_eq (n0 : Nat) (Γ : Bool → SemL) (n2 : Nat) (x0 x1 x2 : Int) (s3 : ByteArray) (r4 r5 r6 : List (List D)) (x7 x8 x9 x10 : Int) (s11 : ByteArray) (r12 r13 r14 : List (List D)) (x15 x16 : Int) : l16_0 (n0 + 1) Γ n2 x0 x1 x2 s3 r4 r5 r6 x7 x8 x9 x10
  s11 r12 r13 r14 x15 x16 = bif decide (x0 < Int.ofNat (List.length r6)) then q16_1 Γ n0 n2 x0 x1 x2 s3 r4 r5 r6 x7 x8 x9 x10 s11 r12 r13 r14 x15 x16 else q16_3 Γ n2 := (loop_step ..).trans
  (by kernel_rfl)
theorem q42_0_eq (Γ : Bool → SemL) (n1 : Nat) (r0 r1 : List (List D)) : q42_0 Γ n1 r0 r1 = l42_0 n1 Γ n1 r0 r1 0 := (Jn_step ..).trans (by kernel_rfl)
theorem l18_0_eq (n0 : Nat) (Γ : Bool → SemL) (n2 : Nat) (x0 : Int) (r1 r2 : List (List D)) (x3 x4 : Int) (s5 : ByteArray) (r6 r7 r8 : List (List D)) (x9 x10 : Int) (r11 r12 : List (List D)) (x13 x14 : Int) (s15 : ByteArray) (r16 r17 r18 : List (List D)) (x19 x20 : Int) : l18_0 (n0 + 1) Γ n2 x0 r1 r2 x3 x4 s5 r6 r7 r8 x9 x10 r11 r12 x13 x14 s15 r16 r17 r18 x19 x20 = bif decide (x0 < Int.ofNat (List.length r2)) then q18_1 Γ
  n0 n2 x0 r1 r2 x3 x4 s5 r6 r7 r8 x9 x10 r11 r12 x13 x14 s15 r16 r17 r18 x19 x20 else q18_3 Γ n2 r1 r2 x3 x4 s5 r6 r7 r8 x9 x10 r11 r12 x13 x14 s15 r16 r17 r18 x19 x20 := (loop_step
  ..).trans (by kernel_rfl)
theorem l35_0_eq (n0 : Nat) (Γ : Bool → SemL) (n2 : Nat) (r0 r1 : List (List D)) (x2 : Int) : l35_0 (n0 + 1) Γ n2 r0 r1 x2 = bif decide (x2 < Int.ofNat (List.length r0))
  then q35_1 Γ n0 n2 r0 r1 x2 else q35_3 Γ n2 := (loop_step ..).trans (by kernel_rfl)
theorem l36_0_eq (n0 : Nat) (Γ : Bool → SemL) (n2 : Nat) (r0 r1 : List (List D)) (x2 : Int) : l36_0 (n0 + 1) Γ n2 r0 r1 x2 = bif decide (x2 < Int.ofNat (List.length r0))
  then q36_1 Γ n0 n2 r0 r1 x2 else q36_3 Γ n2 := (loop_step ..).trans (by kernel_rfl)
theorem q16_1_eq (Γ : Bool → SemL) (n1 : Nat) (n2 : Nat) (x0 x1 x2 : Int) (s3 : ByteArray) (r4 r5 r6 : List (List D)) (x7 x8 x9 x10 : Int) (s11 : ByteArray) (r12 r13 r14 : List (List D)) (x15 x16 : Int) : q16_1 Γ n1 n2 x0 x1 x2 s3 r4 r5 r6 x7 x8 x9 x10 s11 r12
  r13 r14 x15 x16 = bif decide (0 ≤ x0) && decide (x0 < Int.ofNat (List.length r6)) then bif decide (0 ≤ x0) && decide (x0 < Int.ofNat (List.length r14)) then r_oB (Γ false 16 [V.agg [X.d
  (List.getD (List.getD r6 (Int.toNat x0) []) 0 D.junk), X.d (List.getD (List.getD r6 (Int.toNat x0) []) 1 D.junk), X.d (List.getD (List.getD r6 (Int.toNat x0) []) 2 D.junk), X.d (List.getD
  (List.getD r6 (Int.toNat x0) []) 3 D.junk), X.d (List.getD (List.getD r6 (Int.toNat x0) []) 4 D.junk), X.d (List.getD (List.getD r6 (Int.toNat x0) []) 5 D.junk), X.d (List.getD (List.getD
  r6 (Int.toNat x0) []) 6 D.junk), X.d (List.getD (List.getD r6 (Int.toNat x0) []) 7 D.junk)], V.agg [X.d (List.getD (List.getD r14 (Int.toNat x0) []) 0 D.junk), X.d (List.getD (List.getD r14
  (Int.toNat x0) []) 1 D.junk), X.d (List.getD (List.getD r14 (Int.toNat x0) []) 2 D.junk), X.d (List.getD (List.getD r14 (Int.toNat x0) []) 3 D.junk), X.d (List.getD (List.getD r14
  (Int.toNat x0) []) 4 D.junk), X.d (List.getD (List.getD r14 (Int.toNat x0) []) 5 D.junk), X.d (List.getD (List.getD r14 (Int.toNat x0) []) 6 D.junk), X.d (List.getD (List.getD r14
  (Int.toNat x0) []) 7 D.junk)]] []) (fun c0_ => bif !c0_ then some (Out.mk true (V.one (X.d (D.bool false))) D.junk [] 0) else q16_2 Γ n1 n2 x0 x1 x2 s3 r4 r5 r6 x7 x8 x9 x10 s11 r12 r13 r14
  x15 x16) fun d1_ => some (Out.mk false V.junk d1_ [] 0) else none else none := (Jn_step ..).trans (by kernel_rfl)
theorem q16_3_eq (Γ : Bool → SemL) (n1 : Nat) : q16_3 Γ n1 = some (Out.mk true (V.one (X.d (D.bool true))) D.junk [] 0) := (Jn_step ..).trans (by kernel_rfl)
theorem l42_0_eq (n0 : Nat) (Γ : Bool → SemL) (n2 : Nat) (r0 r1 : List (List D)) (x2 : Int) : l42_0 (n0 + 1) Γ n2 r0 r1 x2 = bif decide (x2 < Int.ofNat (List.length r0))
  then q42_1 Γ n0 n2 r0 r1 x2 else q42_3 Γ n2 := (loop_step ..).trans (by kernel_rfl)
theorem q18_1_eq (Γ : Bool → SemL) (n1 : Nat) (n2 : Nat) (x0 : Int) (r1 r2 : List (List D)) (x3 x4 : Int) (s5 : ByteArray) (r6 r7 r8 : List (List D)) (x9 x10 : Int) (r11 r12 : List (List D)) (x13 x14 : Int) (s15 : ByteArray) (r16 r17 r18 : List (List D)) (x19 x20 : Int) : q18_1 Γ n1 n2 x0 r1 r2 x3 x4 s5 r6 r7 r8 x9 x10 r11 r12 x13 x14 s15 r16 r17 r18 x19 x20 = bif decide (0 ≤ x0) && decide (x0 < Int.ofNat (List.length r2))
  then bif decide (0 ≤ x0) && decide (x0 < Int.ofNat (List.length r12)) then bif D.isStr (List.getD (List.getD r2 (Int.toNat x0) []) 0 D.junk) then bif D.isStr (List.getD (List.getD r12
  (Int.toNat x0) []) 0 D.junk) then bif !beqL (Array.toList (ByteArray.data (D.bytes (List.getD (List.getD r2 (Int.toNat x0) []) 0 D.junk)))) (Array.toList (ByteArray.data (D.bytes (List.getD
  (List.getD r12 (Int.toNat x0) []) 0 D.junk)))) then some (Out.mk true (V.one (X.d (D.bool false))) D.junk [] 0) else r_oB (Γ false 42 [V.one (X.d (List.getD (List.getD r2 (Int.toNat x0) [])
  1 D.junk)), V.one (X.d (List.getD (List.getD r12 (Int.toNat x0) []) 1 D.junk))] []) (fun c0_ => bif !c0_ then some (Out.mk true (V.one (X.d (D.bool false))) D.junk [] 0) else r_oB (Γ false
  43 [V.agg [X.d (List.getD (List.getD r2 (Int.toNat x0) []) 2 D.junk), X.d (List.getD (List.getD r2 (Int.toNat x0) []) 3 D.junk)], V.agg [X.d (List.getD (List.getD r12 (Int.toNat x0) []) 2
  D.junk), X.d (List.getD (List.getD r12 (Int.toNat x0) []) 3 D.junk)]] []) (fun c2_ => bif !c2_ then some (Out.mk true (V.one (X.d (D.bool false))) D.junk [] 0) else r_oB (Γ false 16 [V.agg
  [X.d (List.getD (List.getD r2 (Int.toNat x0) []) 4 D.junk), X.d (List.getD (List.getD r2 (Int.toNat x0) []) 5 D.junk), X.d (List.getD (List.getD r2 (Int.toNat x0) []) 6 D.junk), X.d
  (List.getD (List.getD r2 (Int.toNat x0) []) 7 D.junk), X.d (List.getD (List.getD r2 (Int.toNat x0) []) 8 D.junk), X.d (List.getD (List.getD r2 (Int.toNat x0) []) 9 D.junk), X.d (List.getD
  (List.getD r2 (Int.toNat x0) []) 10 D.junk), X.d (List.getD (List.getD r2 (Int.toNat x0) []) 11 D.junk)], V.agg [X.d (List.getD (List.getD r12 (Int.toNat x0) []) 4 D.junk), X.d (List.getD
  (List.getD r12 (Int.toNat x0) []) 5 D.junk), X.d (List.getD (List.getD r12 (Int.toNat x0) []) 6 D.junk), X.d (List.getD (List.getD r12 (Int.toNat x0) []) 7 D.junk), X.d (List.getD
  (List.getD r12 (Int.toNat x0) []) 8 D.junk), X.d (List.getD (List.getD r12 (Int.toNat x0) []) 9 D.junk), X.d (List.getD (List.getD r12 (Int.toNat x0) []) 10 D.junk), X.d (List.getD
  (List.getD r12 (Int.toNat x0) []) 11 D.junk)]] []) (fun c4_ => bif !c4_ then some (Out.mk true (V.one (X.d (D.bool false))) D.junk [] 0) else q18_2 Γ n1 n2 x0 r1 r2 x3 x4 s5 r6 r7 r8 x9 x10
  r11 r12 x13 x14 s15 r16 r17 r18 x19 x20) fun d5_ => some (Out.mk false V.junk d5_ [] 0)) fun d3_ => some (Out.mk false V.junk d3_ [] 0)) fun d1_ => some (Out.mk false V.junk d1_ [] 0) else
  none else none else none else none := (Jn_step ..).trans (by kernel_rfl)
theorem q18_3_eq (Γ : Bool → SemL) (n1 : Nat) (r0 r1 : List (List D)) (x2 x3 : Int) (s4 : ByteArray) (r5 r6 r7 : List (List D))
  (x8 x9 : Int) (r10 r11 : List (List D)) (x12 x13 : Int) (s14 : ByteArray) (r15 r16 r17 : List (List D)) (x18 x19 : Int) : q18_3 Γ n1 r0 r1 x2 x3 s4 r5 r6 r7 x8 x9 r10 r11 x12 x13 s14 r15 r16 r17 x18 x19 = r_oB (Γ false 16 [V.agg [X.d (D.int iK x2), X.d (D.int iK x3), X.d (D.str
  s4), X.d (D.list 1 r5), X.d (D.list 1 r6), X.d (D.list 8 r7), X.d (D.int iK x8), X.d (D.int iK x9)], V.agg [X.d (D.int iK x12), X.d (D.int iK x13), X.d
  (D.str s14), X.d (D.list 1 r15), X.d (D.list 1 r16), X.d (D.list 8 r17), X.d (D.int iK x18), X.d (D.int iK x19)]] []) (fun c0_ => some (Out.mk true (V.one (X.d (D.bool
  c0_))) D.junk [] 0)) fun d1_ => some (Out.mk false V.junk d1_ [] 0) := (Jn_step ..).trans (by kernel_rfl)
theorem q35_1_eq (Γ : Bool → SemL) (n1 : Nat) (n2 : Nat) (r0 r1 : List (List D)) (x2 : Int) : q35_1 Γ n1 n2 r0 r1 x2 = bif decide (0 ≤ x2) && decide (x2 < Int.ofNat
  (List.length r0)) then bif decide (0 ≤ x2) && decide (x2 < Int.ofNat (List.length r1)) then bif D.isStr (List.getD (List.getD r0 (Int.toNat x2) []) 0 D.junk) then bif D.isStr (List.getD
  (List.getD r1 (Int.toNat x2) []) 0 D.junk) then bif !beqL (Array.toList (ByteArray.data (D.bytes (List.getD (List.getD r0 (Int.toNat x2) []) 0 D.junk)))) (Array.toList (ByteArray.data
  (D.bytes (List.getD (List.getD r1 (Int.toNat x2) []) 0 D.junk)))) then some (Out.mk true (V.one (X.d (D.bool false))) D.junk [] 0) else q35_2 Γ n1 n2 r0 r1 x2 else none else none else none
  else none := (Jn_step ..).trans (by kernel_rfl)
theorem q35_3_eq (Γ : Bool → SemL) (n1 : Nat) : q35_3 Γ n1 = some (Out.mk true (V.one (X.d (D.bool true))) D.junk [] 0) := (Jn_step ..).trans (by kernel_rfl)
theorem q36_1_eq (Γ : Bool → SemL) (n1 : Nat) (n2 : Nat) (r0 r1 : List (List D)) (x2 : Int) : q36_1 Γ n1 n2 r0 r1 x2 = bif decide (0 ≤ x2) && decide (x2 < Int.ofNat
  (List.length r0)) then bif decide (0 ≤ x2) && decide (x2 < Int.ofNat (List.length r1)) then bif D.isInt iK (List.getD (List.getD r0 (Int.toNat x2) []) 0 D.junk) then bif D.isInt
  iK (List.getD (List.getD r1 (Int.toNat x2) []) 0 D.junk) then bif D.num (List.getD (List.getD r0 (Int.toNat x2) []) 0 D.junk) != D.num (List.getD (List.getD r1 (Int.toNat x2) []) 0
  D.junk) then some (Out.mk true (V.one (X.d (D.bool false))) D.junk [] 0) else q36_2 Γ n1 n2 r0 r1 x2 else none else none else none else none := (Jn_step ..).trans (by kernel_rfl)
theorem q36_3_eq (Γ : Bool → SemL) (n1 : Nat) : q36_3 Γ n1 = some (Out.mk true (V.one (X.d (D.bool true))) D.junk [] 0) := (Jn_step ..).trans (by kernel_rfl)
theorem q16_2_eq (Γ : Bool → SemL) (n1 : Nat) (n2 : Nat) (x0 x1 x2 : Int) (s3 : ByteArray) (r4 r5 r6 : List (List D)) (x7 x8 x9 x10 : Int) (s11 : ByteArray) (r12 r13 r14 : List (List D)) (x15 x16 : Int) : q16_2 Γ n1 n2 x0 x1 x2 s3 r4 r5 r6 x7 x8 x9 x10 s11 r12
  r13 r14 x15 x16 = l16_0 n1 Γ n2 (IntKind.wrap iK (x0 + 1)) x1 x2 s3 r4 r5 r6 x7 x8 x9 x10 s11 r12 r13 r14 x15 x16 := (Jn_step ..).trans (by kernel_rfl)
theorem q42_1_eq (Γ : Bool → SemL) (n1 : Nat) (n2 : Nat) (r0 r1 : List (List D)) (x2 : Int) : q42_1 Γ n1 n2 r0 r1 x2 = bif decide (0 ≤ x2) && decide (x2 < Int.ofNat
  (List.length r0)) then bif decide (0 ≤ x2) && decide (x2 < Int.ofNat (List.length r1)) then bif D.isStr (List.getD (List.getD r0 (Int.toNat x2) []) 0 D.junk) then bif D.isStr (List.getD
  (List.getD r1 (Int.toNat x2) []) 0 D.junk) then bif !beqL (Array.toList (ByteArray.data (D.bytes (List.getD (List.getD r0 (Int.toNat x2) []) 0 D.junk)))) (Array.toList (ByteArray.data
  (D.bytes (List.getD (List.getD r1 (Int.toNat x2) []) 0 D.junk)))) then some (Out.mk true (V.one (X.d (D.bool false))) D.junk [] 0) else bif decide (0 ≤ x2) && decide (x2 < Int.ofNat
  (List.length r0)) then bif decide (0 ≤ x2) && decide (x2 < Int.ofNat (List.length r1)) then r_oB (Γ false 43 [V.agg [X.d (List.getD (List.getD r0 (Int.toNat x2) []) 1 D.junk), X.d
  (List.getD (List.getD r0 (Int.toNat x2) []) 2 D.junk)], V.agg [X.d (List.getD (List.getD r1 (Int.toNat x2) []) 1 D.junk), X.d (List.getD (List.getD r1 (Int.toNat x2) []) 2 D.junk)]] [])
  (fun c0_ => bif !c0_ then some (Out.mk true (V.one (X.d (D.bool false))) D.junk [] 0) else q42_2 Γ n1 n2 r0 r1 x2) fun d1_ => some (Out.mk false V.junk d1_ [] 0) else none else none else
  none else none else none else none := (Jn_step ..).trans (by kernel_rfl)
theorem q42_3_eq (Γ : Bool → SemL) (n1 : Nat) : q42_3 Γ n1 = some (Out.mk true (V.one (X.d (D.bool true))) D.junk [] 0) := (Jn_step ..).trans (by kernel_rfl)
theorem e43_eq (Γ : Bool → SemL) (n1 : Nat) (x0 : Int) (r1 : List (List D)) (x2 : Int) (r3 : List (List D)) : e43 Γ n1 x0 r1 x2 r3 = bif x0 != x2 then some (Out.mk true (V.one (X.d (D.bool
  false))) D.junk [] 0) else bif Int.ofNat (List.length r1) != Int.ofNat (List.length r3) then some (Out.mk true (V.one (X.d (D.bool false))) D.junk [] 0) else q43_0 Γ n1 x0 r1 x2 r3 :=
  (run_step ..).trans (by kernel_rfl)
theorem q18_2_eq (Γ : Bool → SemL) (n1 : Nat) (n2 : Nat) (x0 : Int) (r1 r2 : List (List D)) (x3 x4 : Int) (s5 : ByteArray) (r6 r7 r8 : List (List D)) (x9 x10 : Int) (r11 r12 : List (List D)) (x13 x14 : Int) (s15 : ByteArray) (r16 r17 r18 : List (List D)) (x19 x20 : Int) : q18_2 Γ n1 n2 x0 r1 r2 x3 x4 s5 r6 r7 r8 x9 x10 r11 r12 x13 x14 s15 r16 r17 r18 x19 x20 = l18_0 n1 Γ n2 (IntKind.wrap iK (x0 + 1)) r1 r2 x3 x4
  s5 r6 r7 r8 x9 x10 r11 r12 x13 x14 s15 r16 r17 r18 x19 x20 := (Jn_step ..).trans (by kernel_rfl)
theorem q35_2_eq (Γ : Bool → SemL) (n1 : Nat) (n2 : Nat) (r0 r1 : List (List D)) (x2 : Int) : q35_2 Γ n1 n2 r0 r1 x2 = l35_0 n1 Γ n2 r0 r1 (IntKind.wrap iK (x2 +
  1)) := (Jn_step ..).trans (by kernel_rfl)
theorem q36_2_eq (Γ : Bool → SemL) (n1 : Nat) (n2 : Nat) (r0 r1 : List (List D)) (x2 : Int) : q36_2 Γ n1 n2 r0 r1 x2 = l36_0 n1 Γ n2 r0 r1 (IntKind.wrap iK (x2 +
  1)) := (Jn_step ..).trans (by kernel_rfl)
theorem q42_2_eq (Γ : Bool → SemL) (n1 : Nat) (n2 : Nat) (r0 r1 : List (List D)) (x2 : Int) : q42_2 Γ n1 n2 r0 r1 x2 = l42_0 n1 Γ n2 r0 r1 (IntKind.wrap iK (x2 +
  1)) := (Jn_step ..).trans (by kernel_rfl)
theorem q43_0_eq (Γ : Bool → SemL) (n1 : Nat) (x0 : Int) (r1 : List (List D)) (x2 : Int) (r3 : List (List D)) : q43_0 Γ n1 x0 r1 x2 r3 = l43_0 n1 Γ n1 0 x0 r1 x2 r3 := (Jn_step ..).trans (by
  kernel_rfl)
theorem l43_0_eq (n0 : Nat) (Γ : Bool → SemL) (n2 : Nat) (x0 x1 : Int) (r2 : List (List D)) (x3 : Int) (r4 : List (List D)) : l43_0 (n0 + 1) Γ n2 x0 x1 r2 x3 r4 = bif decide (x0 <
  Int.ofNat (List.length r2)) then q43_1 Γ n0 n2 x0 x1 r2 x3 r4 else q43_3 Γ n2 := (loop_step ..).trans (by kernel_rfl)
theorem q43_1_eq (Γ : Bool → SemL) (n1 : Nat) (n2 : Nat) (x0 x1 : Int) (r2 : List (List D)) (x3 : Int) (r4 : List (List D)) : q43_1 Γ n1 n2 x0 x1 r2 x3 r4 = bif decide (0 ≤ x0) &&
  decide (x0 < Int.ofNat (List.length r2)) then bif decide (0 ≤ x0) && decide (x0 < Int.ofNat (List.length r4)) then r_oB (Γ false 43 [V.agg [X.d (List.getD (List.getD r2 (Int.toNat x0) []) 0
  D.junk), X.d (List.getD (List.getD r2 (Int.toNat x0) []) 1 D.junk)], V.agg [X.d (List.getD (List.getD r4 (Int.toNat x0) []) 0 D.junk), X.d (List.getD (List.getD r4 (Int.toNat x0) []) 1
  D.junk)]] []) (fun c0_ => bif !c0_ then some (Out.mk true (V.one (X.d (D.bool false))) D.junk [] 0) else q43_2 Γ n1 n2 x0 x1 r2 x3 r4) fun d1_ => some (Out.mk false V.junk d1_ [] 0) else
  none else none := (Jn_step ..).trans (by kernel_rfl)
theorem q43_3_eq (Γ : Bool → SemL) (n1 : Nat) : q43_3 Γ n1 = some (Out.mk true (V.one (X.d (D.bool true))) D.junk [] 0) := (Jn_step ..).trans (by kernel_rfl)
theorem q43_2_eq (Γ : Bool → SemL) (n1 : Nat) (n2 : Nat) (x0 x1 : Int) (r2 : List (List D)) (x3 : Int) (r4 : List (List D)) : q43_2 Γ n1 n2 x0 x1 r2 x3 r4 = l43_0 n1 Γ n2
  (IntKind.wrap iK (x0 + 1)) x1 r2 x3 r4 := (Jn_step ..).trans (by kernel_rfl)
theorem call16 (x0 x1 : Int) (s2 : ByteArray) (r3 r4 r5 : List (List D)) (x6 x7 x8 x9 : Int) (s10 : ByteArray) (r11 r12 r13 : List (List D)) (x14 x15 : Int) {o : Out} (h : Ev (fun _ k n => e16 (Ak k) n x0 x1 s2 r3 r4 r5 x6 x7 x8 x9 s10 r11 r12 r13 x14 x15) o) : Cal 16
  [V.agg [X.d (D.int iK x0), X.d (D.int iK x1), X.d (D.str s2), X.d (D.list 1 r3), X.d (D.list 1 r4), X.d (D.list 8 r5), X.d (D.int iK x6), X.d (D.int iK
  x7)], V.agg [X.d (D.int iK x8), X.d (D.int iK x9), X.d (D.str s10), X.d (D.list 1 r11), X.d (D.list 1 r12), X.d (D.list 8 r13), X.d (D.int iK x14), X.d (D.int
  iK x15)]] [] o := Ev.call (E := fun Γ n1 => e16 Γ n1 x0 x1 s2 r3 r4 r5 x6 x7 x8 x9 s10 r11 r12 r13 x14 x15) (fun k => call_step (by kernel_rfl) rfl) h
theorem call18 (r0 r1 : List (List D)) (x2 x3 : Int) (s4 : ByteArray) (r5 r6 r7 : List (List D)) (x8 x9 : Int) (r10 r11 : List (List D)) (x12 x13 : Int) (s14 : ByteArray) (r15 r16 r17 : List (List D)) (x18 x19 : Int) {o : Out} (h : Ev
  (fun _ k n => e18 (Ak k) n r0 r1 x2 x3 s4 r5 r6 r7 x8 x9 r10 r11 x12 x13 s14 r15 r16 r17 x18 x19) o) : Cal 18 [V.agg [X.d (D.list 5 r0), X.d (D.list 14 r1), X.d (D.int iK x2), X.d
  (D.int iK x3), X.d (D.str s4), X.d (D.list 1 r5), X.d (D.list 1 r6), X.d (D.list 8 r7), X.d (D.int iK x8), X.d (D.int iK x9)], V.agg [X.d (D.list 5 r10), X.d
  (D.list 14 r11), X.d (D.int iK x12), X.d (D.int iK x13), X.d (D.str s14), X.d (D.list 1 r15), X.d (D.list 1 r16), X.d (D.list 8 r17), X.d (D.int iK x18), X.d
  (D.int iK x19)]] [] o := Ev.call (E := fun Γ n1 => e18 Γ n1 r0 r1 x2 x3 s4 r5 r6 r7 x8 x9 r10 r11 x12 x13 s14 r15 r16 r17 x18 x19) (fun k => call_step (by kernel_rfl) rfl) h
theorem call35 (r0 r1 : List (List D)) {o : Out} (h : Ev (fun _ k n => e35 (Ak k) n r0 r1) o) : Cal 35 [V.one (X.d (D.list 1 r0)), V.one (X.d (D.list 1 r1))] [] o := Ev.call
  (E := fun Γ n1 => e35 Γ n1 r0 r1) (fun k => call_step (by kernel_rfl) rfl) h
theorem call36 (r0 r1 : List (List D)) {o : Out} (h : Ev (fun _ k n => e36 (Ak k) n r0 r1) o) : Cal 36 [V.one (X.d (D.list 1 r0)), V.one (X.d (D.list 1 r1))] [] o := Ev.call
  (E := fun Γ n1 => e36 Γ n1 r0 r1) (fun k => call_step (by kernel_rfl) rfl) h
theorem call42 (r0 r1 : List (List D)) {o : Out} (h : Ev (fun _ k n => e42 (Ak k) n r0 r1) o) : Cal 42 [V.one (X.d (D.list 5 r0)), V.one (X.d (D.list 5 r1))] [] o := Ev.call
  (E := fun Γ n1 => e42 Γ n1 r0 r1) (fun k => call_step (by kernel_rfl) rfl) h
theorem call43 (x0 : Int) (r1 : List (List D)) (x2 : Int) (r3 : List (List D)) {o : Out} (h : Ev (fun _ k n => e43 (Ak k) n x0 r1 x2 r3) o) : Cal 43 [V.agg [X.d (D.int iK x0), X.d
  (D.list 2 r1)], V.agg [X.d (D.int iK x2), X.d (D.list 2 r3)]] [] o := Ev.call (E := fun Γ n1 => e43 Γ n1 x0 r1 x2 r3) (fun k => call_step (by kernel_rfl) rfl) h
end Go.Proofs.Ytbmcafehpgimfaa.Ps
