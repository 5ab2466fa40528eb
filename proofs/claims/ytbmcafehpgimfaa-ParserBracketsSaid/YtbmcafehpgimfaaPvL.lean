/- What the pieces of the functions do, as functions of their data. Printed by pack4.py. -/
import Derived.Test.YtbmcafehpgimfaaPv0
namespace Go.Proofs.Ytbmcafehpgimfaa.Ps
set_option maxHeartbeats 0
set_option maxRecDepth 100000
set_option linter.unusedVariables false
open Go Go.RowKit
open Go.IntKind renaming i64 → iK, u8 → uK
noncomputable def e21 (Γ : Bool → SemL) (n1 : Nat) (s0 : ByteArray) : Option Out := runF Γ shp rc false (shp 21) sf21 n1 [V.one (X.d (D.str s0))] []
noncomputable def q21_0 (Γ : Bool → SemL) (n1 : Nat) (s0 : ByteArray) (x1 : Int) (s2 : ByteArray) (x3 x4 : Int) : Option Out := Jn (Γ false) shp n1 j21_0 (St.mk [(0, V.one (X.d (D.str
  s0))), (3, V.one (X.ptr 0 0))] [(0, Blk.mk [Lf.int iK, Lf.str, Lf.int iK, Lf.int iK] [X.d (D.int iK x1), X.d (D.str s2), X.d (D.int iK x3), X.d
  (D.int iK x4)])] [] 1 0 0 []) (finK (Γ true) rc false (shp 21) (SFunc.results sf21) 0)
noncomputable def l21_0 (n0 : Nat) (Γ : Bool → SemL) (n2 : Nat) (s0 : ByteArray) (x1 x2 x3 x4 : Int) (s5 : ByteArray) (x6 x7 : Int) : Option Out := loopK (Γ
  false) shp n0 [0, 3, 4, 5, 6, 7] lb21_0 (St.mk [(0, V.one (X.d (D.str s0))), (3, V.one (X.ptr 0 0)), (4, V.one (X.nilL 5)), (5, V.one (X.d (D.int iK x1))), (6, V.one (X.d (D.int
  iK x2))), (7, V.one (X.d (D.int iK x3)))] [(0, Blk.mk [Lf.int iK, Lf.str, Lf.int iK, Lf.int iK] [X.d (D.int iK x4), X.d (D.str s5), X.d
  (D.int iK x6), X.d (D.int iK x7)])] [] 1 0 0 []) (kBlk 0 (kSeq (some [0, 3, 4, 5, 6]) (fun s K => Jn (Γ false) shp n2 j21_6 s K) (finK (Γ true) rc false (shp 21)
  (SFunc.results sf21) 0)))
noncomputable def q21_1 (Γ : Bool → SemL) (n1 : Nat) (n2 : Nat) (s0 : ByteArray) (x1 x2 x3 x4 : Int) (s5 : ByteArray) (x6 x7 : Int) : Option Out := Jn (Γ
  false) shp n1 j21_1 (St.mk [(0, V.one (X.d (D.str s0))), (3, V.one (X.ptr 0 0)), (4, V.one (X.nilL 5)), (5, V.one (X.d (D.int iK x1))), (6, V.one (X.d (D.int iK x2))), (7,
  V.one (X.d (D.int iK x3)))] [(0, Blk.mk [Lf.int iK, Lf.str, Lf.int iK, Lf.int iK] [X.d (D.int iK x4), X.d (D.str s5), X.d (D.int iK
  x6), X.d (D.int iK x7)])] [] 1 0 0 []) (kLoop (loopK (Γ false) shp n1) [0, 3, 4, 5, 6, 7] lb21_0 (kBlk 0 (kSeq (some [0, 3, 4, 5, 6]) (fun s K => Jn (Γ false) shp n2 j21_6 s K)
  (finK (Γ true) rc false (shp 21) (SFunc.results sf21) 0))))
noncomputable def q21_6 (Γ : Bool → SemL) (n1 : Nat) (s0 : ByteArray) (x1 x2 x3 : Int) (s4 : ByteArray) (x5 x6 : Int) : Option Out := Jn (Γ false) shp n1 j21_6 (St.mk
  [(0, V.one (X.d (D.str s0))), (3, V.one (X.ptr 0 0)), (4, V.one (X.nilL 5)), (5, V.one (X.d (D.int iK x1))), (6, V.one (X.d (D.int iK x2)))] [(0, Blk.mk [Lf.int
  iK, Lf.str, Lf.int iK, Lf.int iK] [X.d (D.int iK x3), X.d (D.str s4), X.d (D.int iK x5), X.d (D.int iK x6)])] [] 1 0 0 []) (finK (Γ
  true) rc false (shp 21) (SFunc.results sf21) 0)
noncomputable def l21_1 (n0 : Nat) (Γ : Bool → SemL) (n2 : Nat) (n3 : Nat) (s0 : ByteArray) (x1 x2 x3 x4 : Int) (s5 : ByteArray) (x6 x7 : Int) : Option Out :=
  loopK (Γ false) shp n0 [0, 3, 4, 5, 6, 7] lb21_1 (St.mk [(0, V.one (X.d (D.str s0))), (3, V.one (X.ptr 0 0)), (4, V.one (X.nilL 5)), (5, V.one (X.d (D.int iK x1))), (6, V.one (X.d
  (D.int iK x2))), (7, V.one (X.d (D.int iK x3)))] [(0, Blk.mk [Lf.int iK, Lf.str, Lf.int iK, Lf.int iK] [X.d (D.int iK x4), X.d (D.str
  s5), X.d (D.int iK x6), X.d (D.int iK x7)])] [] 1 0 0 []) (kBlk 3 (kSeq (some [0, 3, 4, 5, 6, 7]) (fun s K => Jn (Γ false) shp n2 j21_3 s K) (kBlk 2 (kSeq (some [0, 3, 4,
  5, 6, 7]) (fun s K => Jn (Γ false) shp n2 j21_4 s K) (kBlk 1 (kLoop (loopK (Γ false) shp n2) [0, 3, 4, 5, 6, 7] lb21_0 (kBlk 0 (kSeq (some [0, 3, 4, 5, 6]) (fun s K => Jn (Γ false) shp n3
  j21_6 s K) (finK (Γ true) rc false (shp 21) (SFunc.results sf21) 0)))))))))
noncomputable def q21_4 (Γ : Bool → SemL) (n1 : Nat) (n2 : Nat) (s0 : ByteArray) (x1 x2 x3 x4 : Int) (s5 : ByteArray) (x6 x7 : Int) : Option Out := Jn (Γ
  false) shp n1 j21_4 (St.mk [(0, V.one (X.d (D.str s0))), (3, V.one (X.ptr 0 0)), (4, V.one (X.nilL 5)), (5, V.one (X.d (D.int iK x1))), (6, V.one (X.d (D.int iK x2))), (7,
  V.one (X.d (D.int iK x3)))] [(0, Blk.mk [Lf.int iK, Lf.str, Lf.int iK, Lf.int iK] [X.d (D.int iK x4), X.d (D.str s5), X.d (D.int iK
  x6), X.d (D.int iK x7)])] [] 1 0 0 []) (kBlk 1 (kLoop (loopK (Γ false) shp n1) [0, 3, 4, 5, 6, 7] lb21_0 (kBlk 0 (kSeq (some [0, 3, 4, 5, 6]) (fun s K => Jn (Γ false) shp n2 j21_6
  s K) (finK (Γ true) rc false (shp 21) (SFunc.results sf21) 0)))))
noncomputable def q21_2 (Γ : Bool → SemL) (n1 : Nat) (n2 : Nat) (n3 : Nat) (s0 : ByteArray) (x1 x2 x3 x4 : Int) (s5 : ByteArray) (x6 x7 : Int) : Option Out :=
  Jn (Γ false) shp n1 j21_2 (St.mk [(0, V.one (X.d (D.str s0))), (3, V.one (X.ptr 0 0)), (4, V.one (X.nilL 5)), (5, V.one (X.d (D.int iK x1))), (6, V.one (X.d (D.int iK
  x2))), (7, V.one (X.d (D.int iK x3)))] [(0, Blk.mk [Lf.int iK, Lf.str, Lf.int iK, Lf.int iK] [X.d (D.int iK x4), X.d (D.str s5), X.d (D.int
  iK x6), X.d (D.int iK x7)])] [] 1 0 0 []) (kLoop (loopK (Γ false) shp n1) [0, 3, 4, 5, 6, 7] lb21_1 (kBlk 3 (kSeq (some [0, 3, 4, 5, 6, 7]) (fun s K => Jn (Γ false) shp n2
  j21_3 s K) (kBlk 2 (kSeq (some [0, 3, 4, 5, 6, 7]) (fun s K => Jn (Γ false) shp n2 j21_4 s K) (kBlk 1 (kLoop (loopK (Γ false) shp n2) [0, 3, 4, 5, 6, 7] lb21_0 (kBlk 0 (kSeq (some [0, 3, 4,
  5, 6]) (fun s K => Jn (Γ false) shp n3 j21_6 s K) (finK (Γ true) rc false (shp 21) (SFunc.results sf21) 0))))))))))
noncomputable def q21_3 (Γ : Bool → SemL) (n1 : Nat) (n2 : Nat) (s0 : ByteArray) (x1 x2 x3 x4 : Int) (s5 : ByteArray) (x6 x7 : Int) : Option Out := Jn (Γ
  false) shp n1 j21_3 (St.mk [(0, V.one (X.d (D.str s0))), (3, V.one (X.ptr 0 0)), (4, V.one (X.nilL 5)), (5, V.one (X.d (D.int iK x1))), (6, V.one (X.d (D.int iK x2))), (7,
  V.one (X.d (D.int iK x3)))] [(0, Blk.mk [Lf.int iK, Lf.str, Lf.int iK, Lf.int iK] [X.d (D.int iK x4), X.d (D.str s5), X.d (D.int iK
  x6), X.d (D.int iK x7)])] [] 1 0 0 []) (kBlk 2 (kSeq (some [0, 3, 4, 5, 6, 7]) (fun s K => Jn (Γ false) shp n1 j21_4 s K) (kBlk 1 (kLoop (loopK (Γ false) shp n1) [0, 3, 4, 5, 6, 7]
  lb21_0 (kBlk 0 (kSeq (some [0, 3, 4, 5, 6]) (fun s K => Jn (Γ false) shp n2 j21_6 s K) (finK (Γ true) rc false (shp 21) (SFunc.results sf21) 0)))))))
noncomputable def e47 (Γ : Bool → SemL) (n1 : Nat) (s0 : ByteArray) : Option Out := runF Γ shp rc false (shp 47) sf47 n1 [V.one (X.d (D.str s0))] []
noncomputable def q21_5 (Γ : Bool → SemL) (n1 : Nat) (n2 : Nat) (s0 : ByteArray) (x1 x2 x3 x4 : Int) (s5 : ByteArray) (x6 x7 x8 : Int) (s9 : ByteArray)
  (x10 x11 x12 : Int) : Option Out := Jn (Γ false) shp n1 j21_5 (St.mk [(0, V.one (X.d (D.str s0))), (3, V.one (X.ptr 0 0)), (4, V.one (X.nilL 5)), (5, V.one (X.d (D.int
  iK x1))), (6, V.one (X.d (D.int iK x2))), (7, V.one (X.d (D.int iK x3))), (9, V.one (X.ptr 1 0))] [(0, Blk.mk [Lf.int iK, Lf.str, Lf.int iK,
  Lf.int iK] [X.d (D.int iK x4), X.d (D.str s5), X.d (D.int iK x6), X.d (D.int iK x7)]), (1, Blk.mk [Lf.int iK, Lf.str, Lf.int iK, Lf.int
  iK, Lf.int iK] [X.d (D.int iK x8), X.d (D.str s9), X.d (D.int iK x10), X.d (D.int iK x11), X.d (D.int iK x12)])] [] 2 0 0 []) (kBlk 1
  (kLoop (loopK (Γ false) shp n1) [0, 3, 4, 5, 6, 7] lb21_0 (kBlk 0 (kSeq (some [0, 3, 4, 5, 6]) (fun s K => Jn (Γ false) shp n2 j21_6 s K) (finK (Γ true) rc false (shp 21) (SFunc.results
  sf21) 0)))))
noncomputable def e76 (Γ : Bool → SemL) (n1 : Nat) (x0 : Int) : Option Out := runF Γ shp rc false (shp 76) sf76 n1 [V.one (X.d (D.int uK x0))] []
noncomputable def l47_0 (n0 : Nat) (Γ : Bool → SemL) (n2 : Nat) (s0 : ByteArray) (x1 x2 : Int) (s3 : ByteArray) (x4 x5 x6 : Int) : Option Out := loopK (Γ false) shp n0
  [0, 2, 4] lb47_0 (St.mk [(0, V.one (X.d (D.str s0))), (2, V.one (X.ptr 0 0)), (4, V.one (X.d (D.int iK x1)))] [(0, Blk.mk [Lf.int iK, Lf.str, Lf.int iK, Lf.int
  iK, Lf.int iK] [X.d (D.int iK x2), X.d (D.str s3), X.d (D.int iK x4), X.d (D.int iK x5), X.d (D.int iK x6)])] [] 1 0 0 []) (kBlk 1
  (kSeq (some [0, 2, 4]) (fun s K => Jn (Γ false) shp n2 j47_1 s K) (kBlk 0 (kSeq (some [0, 2]) (fun s K => Jn (Γ false) shp n2 j47_8 s K) (finK (Γ true) rc false (shp 47) (SFunc.results
  sf47) 0)))))
noncomputable def e77 (Γ : Bool → SemL) (n1 : Nat) (x0 : Int) : Option Out := runF Γ shp rc false (shp 77) sf77 n1 [V.one (X.d (D.int uK x0))] []
noncomputable def l47_1 (n0 : Nat) (Γ : Bool → SemL) (n2 : Nat) (s0 : ByteArray) (x1 x2 x3 : Int) (s4 : ByteArray) (x5 x6 x7 : Int) : Option Out := loopK (Γ
  false) shp n0 [0, 2, 4, 5] lb47_1 (St.mk [(0, V.one (X.d (D.str s0))), (2, V.one (X.ptr 0 0)), (4, V.one (X.d (D.int iK x1))), (5, V.one (X.d (D.int iK x2)))] [(0, Blk.mk
  [Lf.int iK, Lf.str, Lf.int iK, Lf.int iK, Lf.int iK] [X.d (D.int iK x3), X.d (D.str s4), X.d (D.int iK x5), X.d (D.int iK x6),
  X.d (D.int iK x7)])] [] 1 0 0 []) (kBlk 3 (kSeq (some [0, 2, 4, 5]) (fun s K => Jn (Γ false) shp n2 j47_6 s K) (kBlk 0 (kSeq (some [0, 2]) (fun s K => Jn (Γ false) shp n2 j47_8 s
  K) (finK (Γ true) rc false (shp 47) (SFunc.results sf47) 0)))))
noncomputable def q47_8 (Γ : Bool → SemL) (n1 : Nat) (s0 : ByteArray) (x1 : Int) (s2 : ByteArray) (x3 x4 x5 : Int) : Option Out := Jn (Γ false) shp n1 j47_8 (St.mk [(0, V.one
  (X.d (D.str s0))), (2, V.one (X.ptr 0 0))] [(0, Blk.mk [Lf.int iK, Lf.str, Lf.int iK, Lf.int iK, Lf.int iK] [X.d (D.int iK x1), X.d (D.str s2),
  X.d (D.int iK x3), X.d (D.int iK x4), X.d (D.int iK x5)])] [] 1 0 0 []) (finK (Γ true) rc false (shp 47) (SFunc.results sf47) 0)
noncomputable def l21_0_v1 (n0 : Nat) (Γ : Bool → SemL) (n2 : Nat) (s0 : ByteArray) (r1 : List (List D)) (x2 x3 x4 x5 : Int) (s6 : ByteArray) (x7 x8 : Int) :
  Option Out := loopK (Γ false) shp n0 [0, 3, 4, 5, 6, 7] lb21_0 (St.mk [(0, V.one (X.d (D.str s0))), (3, V.one (X.ptr 0 0)), (4, V.one (X.own 0 51 5 r1)), (5, V.one (X.d (D.int iK
  x2))), (6, V.one (X.d (D.int iK x3))), (7, V.one (X.d (D.int iK x4)))] [(0, Blk.mk [Lf.int iK, Lf.str, Lf.int iK, Lf.int iK] [X.d (D.int
  iK x5), X.d (D.str s6), X.d (D.int iK x7), X.d (D.int iK x8)])] [0] 1 1 0 []) (kBlk 0 (kSeq (some [0, 3, 4, 5, 6]) (fun s K => Jn (Γ false) shp n2 j21_6 s K)
  (finK (Γ true) rc false (shp 21) (SFunc.results sf21) 0)))
noncomputable def q47_0 (Γ : Bool → SemL) (n1 : Nat) (n2 : Nat) (s0 : ByteArray) (x1 x2 : Int) (s3 : ByteArray) (x4 x5 x6 : Int) : Option Out := Jn (Γ false) shp n1
  j47_0 (St.mk [(0, V.one (X.d (D.str s0))), (2, V.one (X.ptr 0 0)), (4, V.one (X.d (D.int iK x1)))] [(0, Blk.mk [Lf.int iK, Lf.str, Lf.int iK, Lf.int iK,
  Lf.int iK] [X.d (D.int iK x2), X.d (D.str s3), X.d (D.int iK x4), X.d (D.int iK x5), X.d (D.int iK x6)])] [] 1 0 0 []) (kLoop (loopK (Γ false)
  shp n1) [0, 2, 4] lb47_0 (kBlk 1 (kSeq (some [0, 2, 4]) (fun s K => Jn (Γ false) shp n2 j47_1 s K) (kBlk 0 (kSeq (some [0, 2]) (fun s K => Jn (Γ false) shp n2 j47_8 s K) (finK (Γ true) rc
  false (shp 47) (SFunc.results sf47) 0))))))
noncomputable def q47_1 (Γ : Bool → SemL) (n1 : Nat) (s0 : ByteArray) (x1 x2 : Int) (s3 : ByteArray) (x4 x5 x6 : Int) : Option Out := Jn (Γ false) shp n1 j47_1 (St.mk
  [(0, V.one (X.d (D.str s0))), (2, V.one (X.ptr 0 0)), (4, V.one (X.d (D.int iK x1)))] [(0, Blk.mk [Lf.int iK, Lf.str, Lf.int iK, Lf.int iK, Lf.int
  iK] [X.d (D.int iK x2), X.d (D.str s3), X.d (D.int iK x4), X.d (D.int iK x5), X.d (D.int iK x6)])] [] 1 0 0 []) (kBlk 0 (kSeq (some [0, 2]) (fun
  s K => Jn (Γ false) shp n1 j47_8 s K) (finK (Γ true) rc false (shp 47) (SFunc.results sf47) 0)))
noncomputable def q47_4 (Γ : Bool → SemL) (n1 : Nat) (n2 : Nat) (s0 : ByteArray) (x1 x2 x3 : Int) (s4 : ByteArray) (x5 x6 x7 : Int) : Option Out := Jn (Γ
  false) shp n1 j47_4 (St.mk [(0, V.one (X.d (D.str s0))), (2, V.one (X.ptr 0 0)), (4, V.one (X.d (D.int iK x1))), (5, V.one (X.d (D.int iK x2)))] [(0, Blk.mk [Lf.int
  iK, Lf.str, Lf.int iK, Lf.int iK, Lf.int iK] [X.d (D.int iK x3), X.d (D.str s4), X.d (D.int iK x5), X.d (D.int iK x6), X.d
  (D.int iK x7)])] [] 1 0 0 []) (kLoop (loopK (Γ false) shp n1) [0, 2, 4, 5] lb47_1 (kBlk 3 (kSeq (some [0, 2, 4, 5]) (fun s K => Jn (Γ false) shp n2 j47_6 s K) (kBlk 0 (kSeq (some
  [0, 2]) (fun s K => Jn (Γ false) shp n2 j47_8 s K) (finK (Γ true) rc false (shp 47) (SFunc.results sf47) 0))))))
noncomputable def q47_6 (Γ : Bool → SemL) (n1 : Nat) (s0 : ByteArray) (x1 x2 x3 : Int) (s4 : ByteArray) (x5 x6 x7 : Int) : Option Out := Jn (Γ false) shp n1
  j47_6 (St.mk [(0, V.one (X.d (D.str s0))), (2, V.one (X.ptr 0 0)), (4, V.one (X.d (D.int iK x1))), (5, V.one (X.d (D.int iK x2)))] [(0, Blk.mk [Lf.int iK, Lf.str,
  Lf.int iK, Lf.int iK, Lf.int iK] [X.d (D.int iK x3), X.d (D.str s4), X.d (D.int iK x5), X.d (D.int iK x6), X.d (D.int iK
  x7)])] [] 1 0 0 []) (kBlk 0 (kSeq (some [0, 2]) (fun s K => Jn (Γ false) shp n1 j47_8 s K) (finK (Γ true) rc false (shp 47) (SFunc.results sf47) 0)))
noncomputable def e79 (Γ : Bool → SemL) (n1 : Nat) (s0 : ByteArray) : Option Out := runF Γ shp rc false (shp 79) sf79 n1 [V.one (X.d (D.str s0))] []
noncomputable def q47_9 (Γ : Bool → SemL) (n1 : Nat) (s0 : ByteArray) (x1 : Int) (s2 : ByteArray) (x3 x4 x5 : Int) : Option Out := Jn (Γ false) shp n1 j47_9 (St.mk [(0, V.one
  (X.d (D.str s0))), (2, V.one (X.ptr 0 0))] [(0, Blk.mk [Lf.int iK, Lf.str, Lf.int iK, Lf.int iK, Lf.int iK] [X.d (D.int iK x1), X.d (D.str s2),
  X.d (D.int iK x3), X.d (D.int iK x4), X.d (D.int iK x5)])] [] 1 0 0 []) (finK (Γ true) rc false (shp 47) (SFunc.results sf47) 0)
noncomputable def q21_1_v1 (Γ : Bool → SemL) (n1 : Nat) (n2 : Nat) (s0 : ByteArray) (r1 : List (List D)) (x2 x3 x4 x5 : Int) (s6 : ByteArray) (x7 x8 : Int) :
  Option Out := Jn (Γ false) shp n1 j21_1 (St.mk [(0, V.one (X.d (D.str s0))), (3, V.one (X.ptr 0 0)), (4, V.one (X.own 0 51 5 r1)), (5, V.one (X.d (D.int iK x2))), (6, V.one (X.d
  (D.int iK x3))), (7, V.one (X.d (D.int iK x4)))] [(0, Blk.mk [Lf.int iK, Lf.str, Lf.int iK, Lf.int iK] [X.d (D.int iK x5), X.d (D.str
  s6), X.d (D.int iK x7), X.d (D.int iK x8)])] [0] 1 1 0 []) (kLoop (loopK (Γ false) shp n1) [0, 3, 4, 5, 6, 7] lb21_0 (kBlk 0 (kSeq (some [0, 3, 4, 5, 6]) (fun s K => Jn (Γ
  false) shp n2 j21_6 s K) (finK (Γ true) rc false (shp 21) (SFunc.results sf21) 0))))
noncomputable def q21_6_v1 (Γ : Bool → SemL) (n1 : Nat) (s0 : ByteArray) (r1 : List (List D)) (x2 x3 x4 : Int) (s5 : ByteArray) (x6 x7 : Int) : Option Out := Jn (Γ
  false) shp n1 j21_6 (St.mk [(0, V.one (X.d (D.str s0))), (3, V.one (X.ptr 0 0)), (4, V.one (X.own 0 51 5 r1)), (5, V.one (X.d (D.int iK x2))), (6, V.one (X.d (D.int iK
  x3)))] [(0, Blk.mk [Lf.int iK, Lf.str, Lf.int iK, Lf.int iK] [X.d (D.int iK x4), X.d (D.str s5), X.d (D.int iK x6), X.d (D.int iK
  x7)])] [0] 1 1 0 []) (finK (Γ true) rc false (shp 21) (SFunc.results sf21) 0)
noncomputable def q47_2 (Γ : Bool → SemL) (n1 : Nat) (s0 : ByteArray) (x1 x2 : Int) (s3 : ByteArray) (x4 x5 x6 : Int) : Option Out := Jn (Γ false) shp n1 j47_2 (St.mk
  [(0, V.one (X.d (D.str s0))), (2, V.one (X.ptr 0 0)), (4, V.one (X.d (D.int iK x1)))] [(0, Blk.mk [Lf.int iK, Lf.str, Lf.int iK, Lf.int iK, Lf.int
  iK] [X.d (D.int iK x2), X.d (D.str s3), X.d (D.int iK x4), X.d (D.int iK x5), X.d (D.int iK x6)])] [] 1 0 0 []) (kBlk 0 (kSeq (some [0, 2]) (fun
  s K => Jn (Γ false) shp n1 j47_8 s K) (finK (Γ true) rc false (shp 47) (SFunc.results sf47) 0)))
noncomputable def q47_5 (Γ : Bool → SemL) (n1 : Nat) (n2 : Nat) (s0 : ByteArray) (x1 x2 x3 : Int) (s4 : ByteArray) (x5 x6 x7 : Int) : Option Out := Jn (Γ
  false) shp n1 j47_5 (St.mk [(0, V.one (X.d (D.str s0))), (2, V.one (X.ptr 0 0)), (4, V.one (X.d (D.int iK x1))), (5, V.one (X.d (D.int iK x2)))] [(0, Blk.mk [Lf.int
  iK, Lf.str, Lf.int iK, Lf.int iK, Lf.int iK] [X.d (D.int iK x3), X.d (D.str s4), X.d (D.int iK x5), X.d (D.int iK x6), X.d
  (D.int iK x7)])] [] 1 0 0 []) (kLoop (loopK (Γ false) shp n1) [0, 2, 4, 5] lb47_1 (kBlk 3 (kSeq (some [0, 2, 4, 5]) (fun s K => Jn (Γ false) shp n2 j47_6 s K) (kBlk 0 (kSeq (some
  [0, 2]) (fun s K => Jn (Γ false) shp n2 j47_8 s K) (finK (Γ true) rc false (shp 47) (SFunc.results sf47) 0))))))
noncomputable def q47_7 (Γ : Bool → SemL) (n1 : Nat) (s0 : ByteArray) (x1 x2 x3 : Int) (s4 : ByteArray) (x5 x6 x7 : Int) : Option Out := Jn (Γ false) shp n1
  j47_7 (St.mk [(0, V.one (X.d (D.str s0))), (2, V.one (X.ptr 0 0)), (4, V.one (X.d (D.int iK x1))), (5, V.one (X.d (D.int iK x2)))] [(0, Blk.mk [Lf.int iK, Lf.str,
  Lf.int iK, Lf.int iK, Lf.int iK] [X.d (D.int iK x3), X.d (D.str s4), X.d (D.int iK x5), X.d (D.int iK x6), X.d (D.int iK
  x7)])] [] 1 0 0 []) (kBlk 0 (kSeq (some [0, 2]) (fun s K => Jn (Γ false) shp n1 j47_8 s K) (finK (Γ true) rc false (shp 47) (SFunc.results sf47) 0)))
noncomputable def l79_0 (n0 : Nat) (Γ : Bool → SemL) (n2 : Nat) (s0 : ByteArray) (r1 : List (List D)) (x2 x3 : Int) : Option Out := loopK (Γ false) shp n0 [0, 5, 6, 7] lb79_0 (St.mk
  [(0, V.one (X.d (D.str s0))), (5, V.one (X.own 0 9 1 r1)), (6, V.one (X.d (D.int iK x2))), (7, V.one (X.d (D.int iK x3)))] [] [0] 0 1 0 []) (kBlk 0 (kSeq (some [0]) (fun s
  K => Jn (Γ false) shp n2 j79_2 s K) (finK (Γ true) rc false (shp 79) (SFunc.results sf79) 0)))
noncomputable def l21_1_v1 (n0 : Nat) (Γ : Bool → SemL) (n2 : Nat) (n3 : Nat) (s0 : ByteArray) (r1 : List (List D)) (x2 x3 x4 x5 : Int) (s6 : ByteArray) (x7 x8 : Int) : Option Out := loopK (Γ false) shp n0 [0, 3, 4, 5, 6, 7] lb21_1 (St.mk [(0, V.one (X.d (D.str s0))), (3, V.one (X.ptr 0 0)), (4, V.one (X.own 0 51 5 r1)), (5, V.one (X.d (D.int
  iK x2))), (6, V.one (X.d (D.int iK x3))), (7, V.one (X.d (D.int iK x4)))] [(0, Blk.mk [Lf.int iK, Lf.str, Lf.int iK, Lf.int iK] [X.d
  (D.int iK x5), X.d (D.str s6), X.d (D.int iK x7), X.d (D.int iK x8)])] [0] 1 1 0 []) (kBlk 3 (kSeq (some [0, 3, 4, 5, 6, 7]) (fun s K => Jn (Γ false) shp n2 j21_3
  s K) (kBlk 2 (kSeq (some [0, 3, 4, 5, 6, 7]) (fun s K => Jn (Γ false) shp n2 j21_4 s K) (kBlk 1 (kLoop (loopK (Γ false) shp n2) [0, 3, 4, 5, 6, 7] lb21_0 (kBlk 0 (kSeq (some [0, 3, 4, 5,
  6]) (fun s K => Jn (Γ false) shp n3 j21_6 s K) (finK (Γ true) rc false (shp 21) (SFunc.results sf21) 0)))))))))
noncomputable def q21_4_v1 (Γ : Bool → SemL) (n1 : Nat) (n2 : Nat) (s0 : ByteArray) (r1 : List (List D)) (x2 x3 x4 x5 : Int) (s6 : ByteArray) (x7 x8 : Int) :
  Option Out := Jn (Γ false) shp n1 j21_4 (St.mk [(0, V.one (X.d (D.str s0))), (3, V.one (X.ptr 0 0)), (4, V.one (X.own 0 51 5 r1)), (5, V.one (X.d (D.int iK x2))), (6, V.one (X.d
  (D.int iK x3))), (7, V.one (X.d (D.int iK x4)))] [(0, Blk.mk [Lf.int iK, Lf.str, Lf.int iK, Lf.int iK] [X.d (D.int iK x5), X.d (D.str
  s6), X.d (D.int iK x7), X.d (D.int iK x8)])] [0] 1 1 0 []) (kBlk 1 (kLoop (loopK (Γ false) shp n1) [0, 3, 4, 5, 6, 7] lb21_0 (kBlk 0 (kSeq (some [0, 3, 4, 5, 6]) (fun s K
  => Jn (Γ false) shp n2 j21_6 s K) (finK (Γ true) rc false (shp 21) (SFunc.results sf21) 0)))))
noncomputable def q47_3 (Γ : Bool → SemL) (n1 : Nat) (s0 : ByteArray) (x1 x2 : Int) (s3 : ByteArray) (x4 x5 x6 : Int) : Option Out := Jn (Γ false) shp n1 j47_3 (St.mk
  [(0, V.one (X.d (D.str s0))), (2, V.one (X.ptr 0 0)), (4, V.one (X.d (D.int iK x1)))] [(0, Blk.mk [Lf.int iK, Lf.str, Lf.int iK, Lf.int iK, Lf.int
  iK] [X.d (D.int iK x2), X.d (D.str s3), X.d (D.int iK x4), X.d (D.int iK x5), X.d (D.int iK x6)])] [] 1 0 0 []) (kBlk 0 (kSeq (some [0, 2]) (fun
  s K => Jn (Γ false) shp n1 j47_8 s K) (finK (Γ true) rc false (shp 47) (SFunc.results sf47) 0)))
noncomputable def q79_0 (Γ : Bool → SemL) (n1 : Nat) (n2 : Nat) (s0 : ByteArray) (r1 : List (List D)) (x2 x3 : Int) : Option Out := Jn (Γ false) shp n1 j79_0 (St.mk [(0, V.one (X.d
  (D.str s0))), (5, V.one (X.own 0 9 1 r1)), (6, V.one (X.d (D.int iK x2))), (7, V.one (X.d (D.int iK x3)))] [] [0] 0 1 0 []) (kLoop (loopK (Γ false) shp n1) [0, 5, 6, 7]
  lb79_0 (kBlk 0 (kSeq (some [0]) (fun s K => Jn (Γ false) shp n2 j79_2 s K) (finK (Γ true) rc false (shp 79) (SFunc.results sf79) 0))))
noncomputable def q79_2 (Γ : Bool → SemL) (n1 : Nat) (s0 : ByteArray) : Option Out := Jn (Γ false) shp n1 j79_2 (St.mk [(0, V.one (X.d (D.str s0)))] [] [] 0 0 0 []) (finK (Γ true) rc false
  (shp 79) (SFunc.results sf79) 0)
noncomputable def q21_2_v1 (Γ : Bool → SemL) (n1 : Nat) (n2 : Nat) (n3 : Nat) (s0 : ByteArray) (r1 : List (List D)) (x2 x3 x4 x5 : Int) (s6 : ByteArray) (x7 x8 : Int) : Option Out := Jn (Γ false) shp n1 j21_2 (St.mk [(0, V.one (X.d (D.str s0))), (3, V.one (X.ptr 0 0)), (4, V.one (X.own 0 51 5 r1)), (5, V.one (X.d (D.int iK x2))), (6,
  V.one (X.d (D.int iK x3))), (7, V.one (X.d (D.int iK x4)))] [(0, Blk.mk [Lf.int iK, Lf.str, Lf.int iK, Lf.int iK] [X.d (D.int iK x5),
  X.d (D.str s6), X.d (D.int iK x7), X.d (D.int iK x8)])] [0] 1 1 0 []) (kLoop (loopK (Γ false) shp n1) [0, 3, 4, 5, 6, 7] lb21_1 (kBlk 3 (kSeq (some [0, 3, 4, 5, 6, 7])
  (fun s K => Jn (Γ false) shp n2 j21_3 s K) (kBlk 2 (kSeq (some [0, 3, 4, 5, 6, 7]) (fun s K => Jn (Γ false) shp n2 j21_4 s K) (kBlk 1 (kLoop (loopK (Γ false) shp n2) [0, 3, 4, 5, 6, 7]
  lb21_0 (kBlk 0 (kSeq (some [0, 3, 4, 5, 6]) (fun s K => Jn (Γ false) shp n3 j21_6 s K) (finK (Γ true) rc false (shp 21) (SFunc.results sf21) 0))))))))))
noncomputable def q21_3_v1 (Γ : Bool → SemL) (n1 : Nat) (n2 : Nat) (s0 : ByteArray) (r1 : List (List D)) (x2 x3 x4 x5 : Int) (s6 : ByteArray) (x7 x8 : Int) :
  Option Out := Jn (Γ false) shp n1 j21_3 (St.mk [(0, V.one (X.d (D.str s0))), (3, V.one (X.ptr 0 0)), (4, V.one (X.own 0 51 5 r1)), (5, V.one (X.d (D.int iK x2))), (6, V.one (X.d
  (D.int iK x3))), (7, V.one (X.d (D.int iK x4)))] [(0, Blk.mk [Lf.int iK, Lf.str, Lf.int iK, Lf.int iK] [X.d (D.int iK x5), X.d (D.str
  s6), X.d (D.int iK x7), X.d (D.int iK x8)])] [0] 1 1 0 []) (kBlk 2 (kSeq (some [0, 3, 4, 5, 6, 7]) (fun s K => Jn (Γ false) shp n1 j21_4 s K) (kBlk 1 (kLoop (loopK (Γ
  false) shp n1) [0, 3, 4, 5, 6, 7] lb21_0 (kBlk 0 (kSeq (some [0, 3, 4, 5, 6]) (fun s K => Jn (Γ false) shp n2 j21_6 s K) (finK (Γ true) rc false (shp 21) (SFunc.results sf21) 0)))))))
noncomputable def q21_5_v1 (Γ : Bool → SemL) (n1 : Nat) (n2 : Nat) (s0 : ByteArray) (r1 : List (List D)) (x2 x3 x4 x5 : Int) (s6 : ByteArray) (x7 x8 x9 : Int) (s10 : ByteArray) (x11 x12 x13 : Int) : Option Out := Jn (Γ false) shp n1 j21_5 (St.mk [(0, V.one (X.d (D.str s0))), (3, V.one (X.ptr 0 0)), (4, V.one (X.own 0 51 5
  r1)), (5, V.one (X.d (D.int iK x2))), (6, V.one (X.d (D.int iK x3))), (7, V.one (X.d (D.int iK x4))), (9, V.one (X.ptr 1 0))] [(0, Blk.mk [Lf.int iK,
  Lf.str, Lf.int iK, Lf.int iK] [X.d (D.int iK x5), X.d (D.str s6), X.d (D.int iK x7), X.d (D.int iK x8)]), (1, Blk.mk [Lf.int iK,
  Lf.str, Lf.int iK, Lf.int iK, Lf.int iK] [X.d (D.int iK x9), X.d (D.str s10), X.d (D.int iK x11), X.d (D.int iK x12), X.d (D.int
  iK x13)])] [0] 2 1 0 []) (kBlk 1 (kLoop (loopK (Γ false) shp n1) [0, 3, 4, 5, 6, 7] lb21_0 (kBlk 0 (kSeq (some [0, 3, 4, 5, 6]) (fun s K => Jn (Γ false) shp n2 j21_6 s K) (finK (Γ
  true) rc false (shp 21) (SFunc.results sf21) 0)))))
noncomputable def e92 (Γ : Bool → SemL) (n1 : Nat) (s0 s1 : ByteArray) : Option Out := runF Γ shp rc false (shp 92) sf92 n1 [V.one (X.d (D.str s0)), V.one (X.d (D.str s1))] []
noncomputable def q79_1 (Γ : Bool → SemL) (n1 : Nat) (n2 : Nat) (s0 : ByteArray) (r1 : List (List D)) (x2 x3 : Int) : Option Out := Jn (Γ false) shp n1 j79_1 (St.mk [(0, V.one (X.d
  (D.str s0))), (5, V.one (X.own 0 9 1 r1)), (6, V.one (X.d (D.int iK x2))), (7, V.one (X.d (D.int iK x3)))] [] [0] 0 1 0 []) (kLoop (loopK (Γ false) shp n1) [0, 5, 6, 7]
  lb79_0 (kBlk 0 (kSeq (some [0]) (fun s K => Jn (Γ false) shp n2 j79_2 s K) (finK (Γ true) rc false (shp 79) (SFunc.results sf79) 0))))
noncomputable def q79_3 (Γ : Bool → SemL) (n1 : Nat) : Option Out := Jn (Γ false) shp n1 j79_3 (St.mk [] [] [] 0 0 0 []) (finK (Γ true) rc false (shp 79) (SFunc.results sf79) 0)
noncomputable def e99 (Γ : Bool → SemL) (n1 : Nat) (s0 s1 : ByteArray) : Option Out := runF Γ shp rc false (shp 99) sf99 n1 [V.one (X.d (D.str s0)), V.one (X.d (D.str s1))] []
theorem e21_eq (Γ : Bool → SemL) (n1 : Nat) (s0 : ByteArray) : e21 Γ n1 s0 = bif decide (Int.ofNat (ByteArray.size s0) > 20000) then some (Out.mk true (V.tup [V.one (X.d (D.list 5 [])), V.agg
  [X.d (D.int iK 2), X.d (D.str (ByteArray.mk #[])), X.d (D.int iK 0), X.d (D.int iK 0)]]) D.junk [] 0) else q21_0 Γ n1 s0 0 (ByteArray.mk #[]) 0 0 := (run_step
  ..).trans (by kernel_rfl)
theorem q21_0_eq (Γ : Bool → SemL) (n1 : Nat) (s0 : ByteArray) (x1 : Int) (s2 : ByteArray) (x3 x4 : Int) : q21_0 Γ n1 s0 x1 s2 x3 x4 = l21_0 n1 Γ n1 s0 1 0 0 x1 s2 x3 x4 := (Jn_step
  ..).trans (by kernel_rfl)
theorem l21_0_eq (n0 : Nat) (Γ : Bool → SemL) (n2 : Nat) (s0 : ByteArray) (x1 x2 x3 x4 : Int) (s5 : ByteArray) (x6 x7 : Int) : l21_0 (n0 + 1) Γ n2 s0 x1 x2 x3
  x4 s5 x6 x7 = bif decide (x3 < Int.ofNat (ByteArray.size s0)) then q21_1 Γ n0 n2 s0 x1 x2 x3 x4 s5 x6 x7 else q21_6 Γ n2 s0 x1 x2 x4 s5 x6 x7 := (loop_step ..).trans (by kernel_rfl)
theorem q21_1_eq (Γ : Bool → SemL) (n1 : Nat) (n2 : Nat) (s0 : ByteArray) (x1 x2 x3 x4 : Int) (s5 : ByteArray) (x6 x7 : Int) : q21_1 Γ n1 n2 s0 x1 x2 x3 x4 s5
  x6 x7 = bif decide (0 ≤ x3) && decide (x3 < Int.ofNat (ByteArray.size s0)) then bif Int.ofNat (UInt8.toNat (ByteArray.get! s0 (Int.toNat x3))) == 10 then l21_0 n1 Γ n2 s0 (IntKind.wrap
  iK (x1 + 1)) (IntKind.wrap iK (x3 + 1)) (IntKind.wrap iK (x3 + 1)) x4 s5 x6 x7 else bif Int.ofNat (UInt8.toNat (ByteArray.get! s0 (Int.toNat x3))) == 32 then
  l21_0 n1 Γ n2 s0 x1 x2 (IntKind.wrap iK (x3 + 1)) x4 s5 x6 x7 else bif Int.ofNat (UInt8.toNat (ByteArray.get! s0 (Int.toNat x3))) == 9 then l21_0 n1 Γ n2 s0 x1 x2 (IntKind.wrap
  iK (x3 + 1)) x4 s5 x6 x7 else bif Int.ofNat (UInt8.toNat (ByteArray.get! s0 (Int.toNat x3))) == 13 then l21_0 n1 Γ n2 s0 x1 x2 (IntKind.wrap iK (x3 + 1)) x4 s5 x6 x7 else
  bif Int.ofNat (UInt8.toNat (ByteArray.get! s0 (Int.toNat x3))) == 35 then l21_1 n1 Γ n1 n2 s0 x1 x2 x3 x4 s5 x6 x7 else q21_4 Γ n1 n2 s0 x1 x2 x3 x4 s5 x6 x7 else none := (Jn_step ..).trans
  (by kernel_rfl)
theorem q21_6_eq (Γ : Bool → SemL) (n1 : Nat) (s0 : ByteArray) (x1 x2 x3 : Int) (s4 : ByteArray) (x5 x6 : Int) : q21_6 Γ n1 s0 x1 x2 x3 s4 x5 x6 = some (Out.mk true
  (V.tup [V.one (X.d (D.list 5 [[D.int iK 5, D.str (ByteArray.mk #[]), D.int iK 0, D.int iK x1, D.int iK (IntKind.wrap iK (IntKind.wrap
  iK (Int.ofNat (ByteArray.size s0) - x2) + 1))]])), V.agg [X.d (D.int iK 0), X.d (D.str (ByteArray.mk #[])), X.d (D.int iK 0), X.d (D.int iK 0)]]) D.junk
  [] 0) := (Jn_step ..).trans (by kernel_rfl)
theorem l21_1_eq (n0 : Nat) (Γ : Bool → SemL) (n2 : Nat) (n3 : Nat) (s0 : ByteArray) (x1 x2 x3 x4 : Int) (s5 : ByteArray) (x6 x7 : Int) : l21_1 (n0 + 1) Γ n2
  n3 s0 x1 x2 x3 x4 s5 x6 x7 = bif decide (x3 < Int.ofNat (ByteArray.size s0)) then bif decide (0 ≤ x3) && decide (x3 < Int.ofNat (ByteArray.size s0)) then bif Int.ofNat (UInt8.toNat
  (ByteArray.get! s0 (Int.toNat x3))) != 10 then q21_2 Γ n0 n2 n3 s0 x1 x2 x3 x4 s5 x6 x7 else q21_3 Γ n2 n3 s0 x1 x2 x3 x4 s5 x6 x7 else none else q21_3 Γ n2 n3 s0 x1 x2 x3 x4 s5 x6 x7 :=
  (loop_step ..).trans (by kernel_rfl)
theorem q21_4_eq (Γ : Bool → SemL) (n1 : Nat) (n2 : Nat) (s0 : ByteArray) (x1 x2 x3 x4 : Int) (s5 : ByteArray) (x6 x7 : Int) : q21_4 Γ n1 n2 s0 x1 x2 x3 x4 s5
  x6 x7 = bif decide (0 ≤ Int.ofNat (ByteArray.size s0)) && decide (Int.ofNat (ByteArray.size s0) ≤ Int.ofNat (ByteArray.size s0)) && decide (0 ≤ x3) && decide (x3 ≤ Int.ofNat (ByteArray.size
  s0)) then r_t2a5ISIIIoI (Γ false 47 [V.one (X.d (D.str (ByteArray.extract s0 (Int.toNat x3) (Int.toNat (Int.ofNat (ByteArray.size s0))))))] []) (fun i0_ u1_ i2_ i3_ i4_ i5_ => bif i5_ != 0
  then some (Out.mk true (V.tup [V.one (X.d (D.list 5 [])), V.agg [X.d (D.int iK i5_), X.d (D.str u1_), X.d (D.int iK x1), X.d (D.int iK (IntKind.wrap iK
  (IntKind.wrap iK (x3 - x2) + 1)))]]) D.junk [] 0) else q21_5 Γ n1 n2 s0 x1 x2 x3 x4 s5 x6 x7 i0_ u1_ i2_ x1 (IntKind.wrap iK (IntKind.wrap iK (x3 - x2) + 1))) fun
  d6_ => some (Out.mk false V.junk d6_ [] 0) else none := (Jn_step ..).trans (by kernel_rfl)
theorem q21_2_eq (Γ : Bool → SemL) (n1 : Nat) (n2 : Nat) (n3 : Nat) (s0 : ByteArray) (x1 x2 x3 x4 : Int) (s5 : ByteArray) (x6 x7 : Int) : q21_2 Γ n1 n2 n3 s0
  x1 x2 x3 x4 s5 x6 x7 = l21_1 n1 Γ n2 n3 s0 x1 x2 (IntKind.wrap iK (x3 + 1)) x4 s5 x6 x7 := (Jn_step ..).trans (by kernel_rfl)
theorem q21_3_eq (Γ : Bool → SemL) (n1 : Nat) (n2 : Nat) (s0 : ByteArray) (x1 x2 x3 x4 : Int) (s5 : ByteArray) (x6 x7 : Int) : q21_3 Γ n1 n2 s0 x1 x2 x3 x4 s5
  x6 x7 = l21_0 n1 Γ n2 s0 x1 x2 x3 x4 s5 x6 x7 := (Jn_step ..).trans (by kernel_rfl)
theorem e47_eq (Γ : Bool → SemL) (n1 : Nat) (s0 : ByteArray) : e47 Γ n1 s0 = bif true && decide (0 < Int.ofNat (ByteArray.size s0)) then r_oB (Γ false 76 [V.one (X.d (D.int uK
  (Int.ofNat (UInt8.toNat (ByteArray.get! s0 0)))))] []) (fun c0_ => bif c0_ then l47_0 n1 Γ n1 s0 0 0 (ByteArray.mk #[]) 0 0 0 else bif true && decide (0 < Int.ofNat (ByteArray.size s0))
  then r_oB (Γ false 77 [V.one (X.d (D.int uK (Int.ofNat (UInt8.toNat (ByteArray.get! s0 0)))))] []) (fun c2_ => bif c2_ then l47_1 n1 Γ n1 s0 0 0 0 (ByteArray.mk #[]) 0 0 0 else
  q47_8 Γ n1 s0 0 (ByteArray.mk #[]) 0 0 0) fun d3_ => some (Out.mk false V.junk d3_ [] 0) else none) fun d1_ => some (Out.mk false V.junk d1_ [] 0) else none := (run_step ..).trans (by
  kernel_rfl)
theorem q21_5_eq (Γ : Bool → SemL) (n1 : Nat) (n2 : Nat) (s0 : ByteArray) (x1 x2 x3 x4 : Int) (s5 : ByteArray) (x6 x7 x8 : Int) (s9 : ByteArray) (x10 x11 x12 : Int) : q21_5 Γ n1 n2 s0 x1 x2 x3 x4 s5 x6 x7 x8 s9 x10 x11 x12 = l21_0_v1 n1 Γ n2 s0 [[D.int iK x8, D.str s9, D.int iK x10, D.int iK x11,
  D.int iK x12]] x1 x2 (IntKind.wrap iK (x3 + Int.ofNat (ByteArray.size s9))) x4 s5 x6 x7 := (Jn_step ..).trans (by kernel_rfl)
theorem e76_eq (Γ : Bool → SemL) (n1 : Nat) (x0 : Int) : e76 Γ n1 x0 = bif decide (x0 ≥ 97) then some (Out.mk true (V.one (X.d (D.bool (decide (x0 ≤ 122))))) D.junk [] 0) else some (Out.mk
  true (V.one (X.d (D.bool false))) D.junk [] 0) := (run_step ..).trans (by kernel_rfl)
theorem l47_0_eq (n0 : Nat) (Γ : Bool → SemL) (n2 : Nat) (s0 : ByteArray) (x1 x2 : Int) (s3 : ByteArray) (x4 x5 x6 : Int) : l47_0 (n0 + 1) Γ n2 s0 x1 x2 s3 x4 x5 x6 =
  bif decide (x1 < Int.ofNat (ByteArray.size s0)) then bif decide (0 ≤ x1) && decide (x1 < Int.ofNat (ByteArray.size s0)) then r_oB (Γ false 76 [V.one (X.d (D.int uK (Int.ofNat
  (UInt8.toNat (ByteArray.get! s0 (Int.toNat x1))))))] []) (fun c0_ => bif c0_ then q47_0 Γ n0 n2 s0 x1 x2 s3 x4 x5 x6 else bif decide (0 ≤ x1) && decide (x1 < Int.ofNat (ByteArray.size s0))
  then r_oB (Γ false 77 [V.one (X.d (D.int uK (Int.ofNat (UInt8.toNat (ByteArray.get! s0 (Int.toNat x1))))))] []) (fun c2_ => bif c2_ then q47_0 Γ n0 n2 s0 x1 x2 s3 x4 x5 x6 else bif
  decide (0 ≤ x1) && decide (x1 < Int.ofNat (ByteArray.size s0)) then bif Int.ofNat (UInt8.toNat (ByteArray.get! s0 (Int.toNat x1))) == 95 then q47_0 Γ n0 n2 s0 x1 x2 s3 x4 x5 x6 else q47_1 Γ
  n2 s0 x1 x2 s3 x4 x5 x6 else none) fun d3_ => some (Out.mk false V.junk d3_ [] 0) else none) fun d1_ => some (Out.mk false V.junk d1_ [] 0) else none else q47_1 Γ n2 s0 x1 x2 s3 x4 x5 x6 :=
  (loop_step ..).trans (by kernel_rfl)
theorem e77_eq (Γ : Bool → SemL) (n1 : Nat) (x0 : Int) : e77 Γ n1 x0 = bif decide (x0 ≥ 48) then some (Out.mk true (V.one (X.d (D.bool (decide (x0 ≤ 57))))) D.junk [] 0) else some (Out.mk
  true (V.one (X.d (D.bool false))) D.junk [] 0) := (run_step ..).trans (by kernel_rfl)
theorem l47_1_eq (n0 : Nat) (Γ : Bool → SemL) (n2 : Nat) (s0 : ByteArray) (x1 x2 x3 : Int) (s4 : ByteArray) (x5 x6 x7 : Int) : l47_1 (n0 + 1) Γ n2 s0 x1 x2 x3
  s4 x5 x6 x7 = bif decide (x1 < Int.ofNat (ByteArray.size s0)) then bif decide (0 ≤ x1) && decide (x1 < Int.ofNat (ByteArray.size s0)) then r_oB (Γ false 77 [V.one (X.d (D.int uK
  (Int.ofNat (UInt8.toNat (ByteArray.get! s0 (Int.toNat x1))))))] []) (fun c0_ => bif c0_ then q47_4 Γ n0 n2 s0 x1 x2 x3 s4 x5 x6 x7 else q47_6 Γ n2 s0 x1 x2 x3 s4 x5 x6 x7) fun d1_ => some
  (Out.mk false V.junk d1_ [] 0) else none else q47_6 Γ n2 s0 x1 x2 x3 s4 x5 x6 x7 := (loop_step ..).trans (by kernel_rfl)
theorem q47_8_eq (Γ : Bool → SemL) (n1 : Nat) (s0 : ByteArray) (x1 : Int) (s2 : ByteArray) (x3 x4 x5 : Int) : q47_8 Γ n1 s0 x1 s2 x3 x4 x5 = r_oS (Γ false 79 [V.one (X.d
  (D.str s0))] []) (fun u0_ => bif !beqL (Array.toList (ByteArray.data u0_)) (Array.toList (ByteArray.data (ByteArray.mk #[]))) then some (Out.mk true (V.tup [V.agg [X.d (D.int iK
  4), X.d (D.str u0_), X.d (D.int iK 0), X.d (D.int iK 0), X.d (D.int iK 0)], V.one (X.d (D.int iK 0))]) D.junk [] 0) else q47_9 Γ n1 s0 x1 s2 x3 x4 x5)
  fun d1_ => some (Out.mk false V.junk d1_ [] 0) := (Jn_step ..).trans (by kernel_rfl)
theorem l21_0_v1_eq (n0 : Nat) (Γ : Bool → SemL) (n2 : Nat) (s0 : ByteArray) (r1 : List (List D)) (x2 x3 x4 x5 : Int) (s6 : ByteArray) (x7 x8 : Int) : l21_0_v1
  (n0 + 1) Γ n2 s0 r1 x2 x3 x4 x5 s6 x7 x8 = bif decide (x4 < Int.ofNat (ByteArray.size s0)) then q21_1_v1 Γ n0 n2 s0 r1 x2 x3 x4 x5 s6 x7 x8 else q21_6_v1 Γ n2 s0 r1 x2 x3 x5 s6 x7 x8 :=
  (loop_step ..).trans (by kernel_rfl)
theorem q47_0_eq (Γ : Bool → SemL) (n1 : Nat) (n2 : Nat) (s0 : ByteArray) (x1 x2 : Int) (s3 : ByteArray) (x4 x5 x6 : Int) : q47_0 Γ n1 n2 s0 x1 x2 s3 x4 x5 x6 = l47_0
  n1 Γ n2 s0 (IntKind.wrap iK (x1 + 1)) x2 s3 x4 x5 x6 := (Jn_step ..).trans (by kernel_rfl)
theorem q47_1_eq (Γ : Bool → SemL) (n1 : Nat) (s0 : ByteArray) (x1 x2 : Int) (s3 : ByteArray) (x4 x5 x6 : Int) : q47_1 Γ n1 s0 x1 x2 s3 x4 x5 x6 = bif decide (x1 > 24)
  then bif decide (0 ≤ x1) && decide (x1 ≤ Int.ofNat (ByteArray.size s0)) && true && decide (0 ≤ x1) then some (Out.mk true (V.tup [V.agg [X.d (D.int iK 0), X.d (D.str
  (ByteArray.extract s0 0 (Int.toNat x1))), X.d (D.int iK 0), X.d (D.int iK 0), X.d (D.int iK 0)], V.one (X.d (D.int iK 2))]) D.junk [] 0) else none else
  q47_2 Γ n1 s0 x1 x2 s3 x4 x5 x6 := (Jn_step ..).trans (by kernel_rfl)
theorem q47_4_eq (Γ : Bool → SemL) (n1 : Nat) (n2 : Nat) (s0 : ByteArray) (x1 x2 x3 : Int) (s4 : ByteArray) (x5 x6 x7 : Int) : q47_4 Γ n1 n2 s0 x1 x2 x3 s4 x5
  x6 x7 = bif decide (0 ≤ x1) && decide (x1 < Int.ofNat (ByteArray.size s0)) then q47_5 Γ n1 n2 s0 x1 (if 2147483648 < IntKind.wrap iK (IntKind.wrap iK (x2 * 10) +
  IntKind.wrap iK (IntKind.wrap uK (Int.ofNat (UInt8.toNat (ByteArray.get! s0 (Int.toNat x1))) - 48))) then 2147483648 else IntKind.wrap iK (IntKind.wrap iK
  (x2 * 10) + IntKind.wrap iK (IntKind.wrap uK (Int.ofNat (UInt8.toNat (ByteArray.get! s0 (Int.toNat x1))) - 48)))) x3 s4 x5 x6 x7 else none := (Jn_step ..).trans (by
  kernel_rfl)
theorem q47_6_eq (Γ : Bool → SemL) (n1 : Nat) (s0 : ByteArray) (x1 x2 x3 : Int) (s4 : ByteArray) (x5 x6 x7 : Int) : q47_6 Γ n1 s0 x1 x2 x3 s4 x5 x6 x7 = bif
  decide (x2 > 2147483647) then bif decide (0 ≤ x1) && decide (x1 ≤ Int.ofNat (ByteArray.size s0)) && true && decide (0 ≤ x1) then some (Out.mk true (V.tup [V.agg [X.d (D.int iK 0),
  X.d (D.str (ByteArray.extract s0 0 (Int.toNat x1))), X.d (D.int iK 0), X.d (D.int iK 0), X.d (D.int iK 0)], V.one (X.d (D.int iK 2))]) D.junk [] 0) else
  none else q47_7 Γ n1 s0 x1 x2 x3 s4 x5 x6 x7 := (Jn_step ..).trans (by kernel_rfl)
theorem e79_eq (Γ : Bool → SemL) (n1 : Nat) (s0 : ByteArray) : e79 Γ n1 s0 = l79_0 n1 Γ n1 s0 [[D.str (ByteArray.mk #[61, 61])], [D.str (ByteArray.mk #[61, 62])], [D.str (ByteArray.mk #[60,
  61])], [D.str (ByteArray.mk #[58, 58])]] 4 0 := (run_step ..).trans (by kernel_rfl)
theorem q47_9_eq (Γ : Bool → SemL) (n1 : Nat) (s0 : ByteArray) (x1 : Int) (s2 : ByteArray) (x3 x4 x5 : Int) : q47_9 Γ n1 s0 x1 s2 x3 x4 x5 = bif true && decide (1 ≤ Int.ofNat
  (ByteArray.size s0)) && true && true then some (Out.mk true (V.tup [V.agg [X.d (D.int iK 0), X.d (D.str (ByteArray.extract s0 0 1)), X.d (D.int iK 0), X.d (D.int
  iK 0), X.d (D.int iK 0)], V.one (X.d (D.int iK 10))]) D.junk [] 0) else none := (Jn_step ..).trans (by kernel_rfl)
theorem q21_1_v1_eq (Γ : Bool → SemL) (n1 : Nat) (n2 : Nat) (s0 : ByteArray) (r1 : List (List D)) (x2 x3 x4 x5 : Int) (s6 : ByteArray) (x7 x8 : Int) : q21_1_v1
  Γ n1 n2 s0 r1 x2 x3 x4 x5 s6 x7 x8 = bif decide (0 ≤ x4) && decide (x4 < Int.ofNat (ByteArray.size s0)) then bif Int.ofNat (UInt8.toNat (ByteArray.get! s0 (Int.toNat x4))) == 10 then
  l21_0_v1 n1 Γ n2 s0 r1 (IntKind.wrap iK (x2 + 1)) (IntKind.wrap iK (x4 + 1)) (IntKind.wrap iK (x4 + 1)) x5 s6 x7 x8 else bif Int.ofNat (UInt8.toNat
  (ByteArray.get! s0 (Int.toNat x4))) == 32 then l21_0_v1 n1 Γ n2 s0 r1 x2 x3 (IntKind.wrap iK (x4 + 1)) x5 s6 x7 x8 else bif Int.ofNat (UInt8.toNat (ByteArray.get! s0 (Int.toNat
  x4))) == 9 then l21_0_v1 n1 Γ n2 s0 r1 x2 x3 (IntKind.wrap iK (x4 + 1)) x5 s6 x7 x8 else bif Int.ofNat (UInt8.toNat (ByteArray.get! s0 (Int.toNat x4))) == 13 then l21_0_v1 n1 Γ n2
  s0 r1 x2 x3 (IntKind.wrap iK (x4 + 1)) x5 s6 x7 x8 else bif Int.ofNat (UInt8.toNat (ByteArray.get! s0 (Int.toNat x4))) == 35 then l21_1_v1 n1 Γ n1 n2 s0 r1 x2 x3 x4 x5 s6 x7 x8
  else q21_4_v1 Γ n1 n2 s0 r1 x2 x3 x4 x5 s6 x7 x8 else none := (Jn_step ..).trans (by kernel_rfl)
theorem q21_6_v1_eq (Γ : Bool → SemL) (n1 : Nat) (s0 : ByteArray) (r1 : List (List D)) (x2 x3 x4 : Int) (s5 : ByteArray) (x6 x7 : Int) : q21_6_v1 Γ n1 s0 r1 x2 x3 x4
  s5 x6 x7 = bif true && true && true && Nat.ble ((List.length r1 + List.length [[D.int iK 5, D.str (ByteArray.mk #[]), D.int iK 0, D.int iK x2, D.int iK
  (IntKind.wrap iK (IntKind.wrap iK (Int.ofNat (ByteArray.size s0) - x3) + 1))]]) * 49) 140737488355328 then some (Out.mk true (V.tup [V.one (X.d (D.list 5 (r1 ++ [[D.int
  iK 5, D.str (ByteArray.mk #[]), D.int iK 0, D.int iK x2, D.int iK (IntKind.wrap iK (IntKind.wrap iK (Int.ofNat (ByteArray.size s0) -
  x3) + 1))]]))), V.agg [X.d (D.int iK 0), X.d (D.str (ByteArray.mk #[])), X.d (D.int iK 0), X.d (D.int iK 0)]]) D.junk [] 0) else none := (Jn_step ..).trans (by
  kernel_rfl)
theorem q47_2_eq (Γ : Bool → SemL) (n1 : Nat) (s0 : ByteArray) (x1 x2 : Int) (s3 : ByteArray) (x4 x5 x6 : Int) : q47_2 Γ n1 s0 x1 x2 s3 x4 x5 x6 = bif decide (0 ≤ x1)
  && decide (x1 ≤ Int.ofNat (ByteArray.size s0)) && true && decide (0 ≤ x1) then bif Nat.ble (1 + ByteArray.size (ByteArray.extract s0 0 (Int.toNat x1))) 9223372036854775807 then bif Nat.ble
  (ByteArray.size (ByteArray.mk #[32] ++ ByteArray.extract s0 0 (Int.toNat x1)) + 1) 9223372036854775807 then r_oB (Γ false 78 [V.one (X.d (D.str (ByteArray.mk #[32, 97, 110, 100, 32, 98,
  111, 111, 108, 32, 99, 97, 115, 101, 32, 101, 108, 115, 101, 32, 102, 97, 108, 115, 101, 32, 102, 108, 105, 112, 32, 102, 117, 110, 32, 105, 102, 32, 105, 110, 32, 105, 110, 112, 117, 116,
  32, 105, 110, 116, 32, 108, 101, 116, 32, 110, 111, 116, 32, 111, 98, 115, 101, 114, 118, 101, 32, 111, 102, 32, 111, 114, 32, 112, 105, 99, 107, 32, 114, 97, 110, 103, 101, 32, 115, 99,
  111, 114, 101, 32, 116, 104, 101, 110, 32, 116, 114, 117, 101, 32]))), V.one (X.d (D.str (ByteArray.mk #[32] ++ ByteArray.extract s0 0 (Int.toNat x1) ++ ByteArray.mk #[32])))] []) (fun c0_
  => bif c0_ then bif decide (0 ≤ x1) && decide (x1 ≤ Int.ofNat (ByteArray.size s0)) && true && decide (0 ≤ x1) then some (Out.mk true (V.tup [V.agg [X.d (D.int iK 2), X.d (D.str
  (ByteArray.extract s0 0 (Int.toNat x1))), X.d (D.int iK 0), X.d (D.int iK 0), X.d (D.int iK 0)], V.one (X.d (D.int iK 0))]) D.junk [] 0) else none else
  q47_3 Γ n1 s0 x1 x2 s3 x4 x5 x6) fun d1_ => some (Out.mk false V.junk d1_ [] 0) else none else none else none := (Jn_step ..).trans (by kernel_rfl)
theorem q47_5_eq (Γ : Bool → SemL) (n1 : Nat) (n2 : Nat) (s0 : ByteArray) (x1 x2 x3 : Int) (s4 : ByteArray) (x5 x6 x7 : Int) : q47_5 Γ n1 n2 s0 x1 x2 x3 s4 x5
  x6 x7 = l47_1 n1 Γ n2 s0 (IntKind.wrap iK (x1 + 1)) x2 x3 s4 x5 x6 x7 := (Jn_step ..).trans (by kernel_rfl)
theorem q47_7_eq (Γ : Bool → SemL) (n1 : Nat) (s0 : ByteArray) (x1 x2 x3 : Int) (s4 : ByteArray) (x5 x6 x7 : Int) : q47_7 Γ n1 s0 x1 x2 x3 s4 x5 x6 x7 = bif
  decide (0 ≤ x1) && decide (x1 ≤ Int.ofNat (ByteArray.size s0)) && true && decide (0 ≤ x1) then some (Out.mk true (V.tup [V.agg [X.d (D.int iK 3), X.d (D.str (ByteArray.extract s0 0
  (Int.toNat x1))), X.d (D.int iK x2), X.d (D.int iK 0), X.d (D.int iK 0)], V.one (X.d (D.int iK 0))]) D.junk [] 0) else none := (Jn_step ..).trans (by
  kernel_rfl)
theorem l79_0_eq (n0 : Nat) (Γ : Bool → SemL) (n2 : Nat) (s0 : ByteArray) (r1 : List (List D)) (x2 x3 : Int) : l79_0 (n0 + 1) Γ n2 s0 r1 x2 x3 = bif decide (x3 < x2) then q79_0 Γ n0
  n2 s0 r1 x2 x3 else q79_2 Γ n2 s0 := (loop_step ..).trans (by kernel_rfl)
theorem l21_1_v1_eq (n0 : Nat) (Γ : Bool → SemL) (n2 : Nat) (n3 : Nat) (s0 : ByteArray) (r1 : List (List D)) (x2 x3 x4 x5 : Int) (s6 : ByteArray) (x7 x8 : Int)
  : l21_1_v1 (n0 + 1) Γ n2 n3 s0 r1 x2 x3 x4 x5 s6 x7 x8 = bif decide (x4 < Int.ofNat (ByteArray.size s0)) then bif decide (0 ≤ x4) && decide (x4 < Int.ofNat (ByteArray.size s0)) then bif
  Int.ofNat (UInt8.toNat (ByteArray.get! s0 (Int.toNat x4))) != 10 then q21_2_v1 Γ n0 n2 n3 s0 r1 x2 x3 x4 x5 s6 x7 x8 else q21_3_v1 Γ n2 n3 s0 r1 x2 x3 x4 x5 s6 x7 x8 else none else q21_3_v1
  Γ n2 n3 s0 r1 x2 x3 x4 x5 s6 x7 x8 := (loop_step ..).trans (by kernel_rfl)
theorem q21_4_v1_eq (Γ : Bool → SemL) (n1 : Nat) (n2 : Nat) (s0 : ByteArray) (r1 : List (List D)) (x2 x3 x4 x5 : Int) (s6 : ByteArray) (x7 x8 : Int) : q21_4_v1
  Γ n1 n2 s0 r1 x2 x3 x4 x5 s6 x7 x8 = bif decide (0 ≤ Int.ofNat (ByteArray.size s0)) && decide (Int.ofNat (ByteArray.size s0) ≤ Int.ofNat (ByteArray.size s0)) && decide (0 ≤ x4) && decide
  (x4 ≤ Int.ofNat (ByteArray.size s0)) then r_t2a5ISIIIoI (Γ false 47 [V.one (X.d (D.str (ByteArray.extract s0 (Int.toNat x4) (Int.toNat (Int.ofNat (ByteArray.size s0))))))] []) (fun i0_ u1_
  i2_ i3_ i4_ i5_ => bif i5_ != 0 then some (Out.mk true (V.tup [V.one (X.d (D.list 5 [])), V.agg [X.d (D.int iK i5_), X.d (D.str u1_), X.d (D.int iK x2), X.d (D.int
  iK (IntKind.wrap iK (IntKind.wrap iK (x4 - x3) + 1)))]]) D.junk [] 0) else q21_5_v1 Γ n1 n2 s0 r1 x2 x3 x4 x5 s6 x7 x8 i0_ u1_ i2_ x2 (IntKind.wrap iK
  (IntKind.wrap iK (x4 - x3) + 1))) fun d6_ => some (Out.mk false V.junk d6_ [] 0) else none := (Jn_step ..).trans (by kernel_rfl)
theorem q47_3_eq (Γ : Bool → SemL) (n1 : Nat) (s0 : ByteArray) (x1 x2 : Int) (s3 : ByteArray) (x4 x5 x6 : Int) : q47_3 Γ n1 s0 x1 x2 s3 x4 x5 x6 = bif decide (0 ≤ x1)
  && decide (x1 ≤ Int.ofNat (ByteArray.size s0)) && true && decide (0 ≤ x1) then some (Out.mk true (V.tup [V.agg [X.d (D.int iK 1), X.d (D.str (ByteArray.extract s0 0 (Int.toNat
  x1))), X.d (D.int iK 0), X.d (D.int iK 0), X.d (D.int iK 0)], V.one (X.d (D.int iK 0))]) D.junk [] 0) else none := (Jn_step ..).trans (by kernel_rfl)
theorem q79_0_eq (Γ : Bool → SemL) (n1 : Nat) (n2 : Nat) (s0 : ByteArray) (r1 : List (List D)) (x2 x3 : Int) : q79_0 Γ n1 n2 s0 r1 x2 x3 = bif decide (0 ≤ x3) && decide (x3 <
  Int.ofNat (List.length r1)) then r_oB (Γ false 92 [V.one (X.d (D.str s0)), V.one (X.d (List.getD (List.getD r1 (Int.toNat x3) []) 0 D.junk))] []) (fun c0_ => bif c0_ then some (Out.mk true
  (V.one (X.d (List.getD (List.getD r1 (Int.toNat x3) []) 0 D.junk))) D.junk [] 0) else q79_1 Γ n1 n2 s0 r1 x2 x3) fun d1_ => some (Out.mk false V.junk d1_ [] 0) else none := (Jn_step
  ..).trans (by kernel_rfl)
theorem q79_2_eq (Γ : Bool → SemL) (n1 : Nat) (s0 : ByteArray) : q79_2 Γ n1 s0 = bif true && decide (0 < Int.ofNat (ByteArray.size s0)) then r_oI (Γ false 93 [V.one (X.d (D.str (ByteArray.mk
  #[40, 41, 91, 93, 123, 125, 44, 59, 58, 124, 43, 45, 42, 47, 37, 61, 60]))), V.one (X.d (D.int uK (Int.ofNat (UInt8.toNat (ByteArray.get! s0 0)))))] []) (fun i0_ => bif decide (i0_
  ≥ 0) then bif true && decide (1 ≤ Int.ofNat (ByteArray.size s0)) && true && true then some (Out.mk true (V.one (X.d (D.str (ByteArray.extract s0 0 1)))) D.junk [] 0) else none else q79_3 Γ
  n1) fun d1_ => some (Out.mk false V.junk d1_ [] 0) else none := (Jn_step ..).trans (by kernel_rfl)
theorem q21_2_v1_eq (Γ : Bool → SemL) (n1 : Nat) (n2 : Nat) (n3 : Nat) (s0 : ByteArray) (r1 : List (List D)) (x2 x3 x4 x5 : Int) (s6 : ByteArray) (x7 x8 : Int)
  : q21_2_v1 Γ n1 n2 n3 s0 r1 x2 x3 x4 x5 s6 x7 x8 = l21_1_v1 n1 Γ n2 n3 s0 r1 x2 x3 (IntKind.wrap iK (x4 + 1)) x5 s6 x7 x8 := (Jn_step ..).trans (by kernel_rfl)
theorem q21_3_v1_eq (Γ : Bool → SemL) (n1 : Nat) (n2 : Nat) (s0 : ByteArray) (r1 : List (List D)) (x2 x3 x4 x5 : Int) (s6 : ByteArray) (x7 x8 : Int) : q21_3_v1
  Γ n1 n2 s0 r1 x2 x3 x4 x5 s6 x7 x8 = l21_0_v1 n1 Γ n2 s0 r1 x2 x3 x4 x5 s6 x7 x8 := (Jn_step ..).trans (by kernel_rfl)
theorem q21_5_v1_eq (Γ : Bool → SemL) (n1 : Nat) (n2 : Nat) (s0 : ByteArray) (r1 : List (List D)) (x2 x3 x4 x5 : Int) (s6 : ByteArray) (x7 x8 x9 : Int)
  (s10 : ByteArray) (x11 x12 x13 : Int) : q21_5_v1 Γ n1 n2 s0 r1 x2 x3 x4 x5 s6 x7 x8 x9 s10 x11 x12 x13 = bif true && true && true && Nat.ble ((List.length r1 + List.length
  [[D.int iK x9, D.str s10, D.int iK x11, D.int iK x12, D.int iK x13]]) * 49) 140737488355328 then l21_0_v1 n1 Γ n2 s0 (r1 ++ [[D.int iK x9, D.str
  s10, D.int iK x11, D.int iK x12, D.int iK x13]]) x2 x3 (IntKind.wrap iK (x4 + Int.ofNat (ByteArray.size s10))) x5 s6 x7 x8 else none := (Jn_step
  ..).trans (by kernel_rfl)
theorem e92_eq (Γ : Bool → SemL) (n1 : Nat) (s0 s1 : ByteArray) : e92 Γ n1 s0 s1 = r_oB (Γ false 99 [V.one (X.d (D.str s0)), V.one (X.d (D.str s1))] []) (fun c0_ => some (Out.mk
  true (V.one (X.d (D.bool c0_))) D.junk [] 0)) fun d1_ => some (Out.mk false V.junk d1_ [] 0) := (run_step ..).trans (by kernel_rfl)
theorem q79_1_eq (Γ : Bool → SemL) (n1 : Nat) (n2 : Nat) (s0 : ByteArray) (r1 : List (List D)) (x2 x3 : Int) : q79_1 Γ n1 n2 s0 r1 x2 x3 = l79_0 n1 Γ n2 s0 r1 x2 (IntKind.wrap
  iK (x3 + 1)) := (Jn_step ..).trans (by kernel_rfl)
theorem q79_3_eq (Γ : Bool → SemL) (n1 : Nat) : q79_3 Γ n1 = some (Out.mk true (V.one (X.d (D.str (ByteArray.mk #[])))) D.junk [] 0) := (Jn_step ..).trans (by kernel_rfl)
theorem e99_eq (Γ : Bool → SemL) (n1 : Nat) (s0 s1 : ByteArray) : e99 Γ n1 s0 s1 = bif decide (Int.ofNat (ByteArray.size s0) ≥ Int.ofNat (ByteArray.size s1)) then bif decide (0
  ≤ Int.ofNat (ByteArray.size s1)) && decide (Int.ofNat (ByteArray.size s1) ≤ Int.ofNat (ByteArray.size s0)) && true && decide (0 ≤ Int.ofNat (ByteArray.size s1)) then some (Out.mk true
  (V.one (X.d (D.bool (beqL (Array.toList (ByteArray.data (ByteArray.extract s0 0 (Int.toNat (Int.ofNat (ByteArray.size s1)))))) (Array.toList (ByteArray.data s1)))))) D.junk [] 0) else none
  else some (Out.mk true (V.one (X.d (D.bool false))) D.junk [] 0) := (run_step ..).trans (by kernel_rfl)
theorem call21 (s0 : ByteArray) {o : Out} (h : Ev (fun _ k n => e21 (Ak k) n s0) o) : Cal 21 [V.one (X.d (D.str s0))] [] o := Ev.call (E := fun Γ n1 => e21 Γ n1 s0) (fun k => call_step (by
  kernel_rfl) rfl) h
theorem call47 (s0 : ByteArray) {o : Out} (h : Ev (fun _ k n => e47 (Ak k) n s0) o) : Cal 47 [V.one (X.d (D.str s0))] [] o := Ev.call (E := fun Γ n1 => e47 Γ n1 s0) (fun k => call_step (by
  kernel_rfl) rfl) h
theorem call76 (x0 : Int) {o : Out} (h : Ev (fun _ k n => e76 (Ak k) n x0) o) : Cal 76 [V.one (X.d (D.int uK x0))] [] o := Ev.call (E := fun Γ n1 => e76 Γ n1 x0) (fun k => call_step
  (by kernel_rfl) rfl) h
theorem call77 (x0 : Int) {o : Out} (h : Ev (fun _ k n => e77 (Ak k) n x0) o) : Cal 77 [V.one (X.d (D.int uK x0))] [] o := Ev.call (E := fun Γ n1 => e77 Γ n1 x0) (fun k => call_step
  (by kernel_rfl) rfl) h
theorem call79 (s0 : ByteArray) {o : Out} (h : Ev (fun _ k n => e79 (Ak k) n s0) o) : Cal 79 [V.one (X.d (D.str s0))] [] o := Ev.call (E := fun Γ n1 => e79 Γ n1 s0) (fun k => call_step (by
  kernel_rfl) rfl) h
theorem call92 (s0 s1 : ByteArray) {o : Out} (h : Ev (fun _ k n => e92 (Ak k) n s0 s1) o) : Cal 92 [V.one (X.d (D.str s0)), V.one (X.d (D.str s1))] [] o := Ev.call (E := fun Γ
  n1 => e92 Γ n1 s0 s1) (fun k => call_step (by kernel_rfl) rfl) h
theorem call99 (s0 s1 : ByteArray) {o : Out} (h : Ev (fun _ k n => e99 (Ak k) n s0 s1) o) : Cal 99 [V.one (X.d (D.str s0)), V.one (X.d (D.str s1))] [] o := Ev.call (E := fun Γ
  n1 => e99 Γ n1 s0 s1) (fun k => call_step (by kernel_rfl) rfl) h
end Go.Proofs.Ytbmcafehpgimfaa.Ps
