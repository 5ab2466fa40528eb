/- What the pieces of the functions do, as functions of their data. Printed by pack4.py. -/
import Derived.Test.YtbmcafehpgimfaaPv0
namespace Go.Proofs.Ytbmcafehpgimfaa.Ps
set_option maxHeartbeats 0
set_option maxRecDepth 100000
set_option linter.unusedVariables false
open Go Go.RowKit
open Go.IntKind renaming i64 → iK, u8 → uK
noncomputable def e21 (Γ : Bool → SemL) (n1 : Nat) (s0 : ByteArray) : Option Out := runF Γ shp rc false (shp 21) sf21 n1 [V.one (X.d (D.str s0))] []
noncomputable def q21_0 (Γ : Bool → SemL) (n1 : Nat) (s0 : ByteArray) (x1 : Int) (s2 : ByteArray) (x3 x4 : Int) : Option Out := Jn (Γ false) shp n1 j21_0 (St.mk [(0, V.one (X.d (D.str
  s0))), (3, V.one (X.ptr 0 0))] [(0, Blk.mk [Lf.int iK, Lf.str, Lf.int iK, Lf.int iK] [X.d (D.int iK x1), X.d (D.str s2), X.d (D.int iK x3), X.d
  (D.int iK x4)])] [] 1 0 0 []) (finK (Γ true) rc false (shp 21) (SFunc.results sf21) 0)
noncomputable def l21_0 (n0 : Nat) (Γ : Bool → SemL) (n2 : Nat) (s0 : ByteArray) (x1 x2 x3 x4 : Int) (s5 : ByteArray) (x6 x7 : Int) : Option Out := loopK (Γ
  false) shp n0 [0, 3, 4, 5, 6, 7] lb21_0 (St.mk [(0, V.one (X.d (D.str s0))), (3, V.one (X.ptr 0 0)), (4, V.one (X.nilL 5)), (5, V.one (X.d (D.int iK x1))), (6, V.one (X.d (D.int
  iK x2))), (7, V.one (X.d (D.int iK x3)))] [(0, Blk.mk [Lf.int iK, Lf.str, Lf.int iK, Lf.int iK] [X.d (D.int iK x4), X.d (D.str s5), X.d
  (D.int iK x6), X.d (D.int iK x7)])] [] 1 0 0 []) (kBlk 0 (kSeq (some [0, 3, 4, 5, 6]) (fun s K => Jn (Γ false) shp n2 j21_6 s K) (finK (Γ true) rc false (shp 21)
  (SFunc.results sf21) 0)))
noncomputable def q21_1 (Γ : Bool → SemL) (n1 : Nat) (n2 : Nat) (s0 : ByteArray) (x1 x2 x3 x4 : Int) (s5 : ByteArray) (x6 x7 : Int) : Option Out := Jn (Γ
  false) shp n1 j21_1 (St.mk [(0, V.one (X.d (D.str s0))), (3, V.one (X.ptr 0 0)), (4, V.one (X.nilL 5)), (5, V.one (X.d (D.int iK x1))), (6, V.one (X.d (D.int iK x2))), (7,
  V.one (X.d (D.int iK x3)))] [(0, Blk.mk [Lf.int iK, Lf.str, Lf.int iK, Lf.int iK] [X.d (D.int iK x4), X.d (D.str s5), X.d (D.int iK
  x6), X.d (D.int iK x7)])] [] 1 0 0 []) (kLoop (loopK (Γ false) shp n1) [0, 3, 4, 5, 6, 7] lb21_0 (kBlk 0 (kSeq (some [0, 3, 4, 5, 6]) (fun s K => Jn (Γ false) shp n2 j21_6 s K)
  (finK (Γ true) rc false (shp 21) (SFunc.results sf21) 0))))
noncomputable def q21_6 (Γ : Bool → SemL) (n1 : Nat) (s0 : ByteArray) (x1 x2 x3 : Int) (s4 : ByteArray) (x5 x6 : Int) : Option Out := Jn (Γ false) shp n1 j21_6 (St.mk
  [(0, V.one (X.d (D.str s0))), (3, V.one (X.ptr 0 0)), (4, V.one (X.nilL 5)), (5, V.one (X.d (D.int iK x1))), (6, V.one (X.d (D.int iK x2)))] [(0, Blk.mk [Lf.int
  iK, Lf.str, Lf.int iK, Lf.int iK] [X.d (D.int iK x3), X.d (D.str s4), X.d (D.int iK x5), X.d (D.int iK x6)])] [] 1 0 0 []) (finK (Γ
  true) rc false (shp 21) (SFunc.results sf21) 0)
noncomputable def l21_1 (n0 : Nat) (Γ : Bool → SemL) (n2 : Nat) (n3 : Nat) (s0 : ByteArray) (x1 x2 x3 x4 : Int) (s5 : ByteArray) (x6 x7 : Int) : Option Out :=
  loopK (Γ false) shp n0 [0, 3, 4, 5, 6, 7] lb21_1 (St.mk [(0, V.one (X.d (D.str s0))), (3, V.one (X.ptr 0 0)), (4, V.one (X.nilL 5)), (5, V.one (X.d (D.int iK x1))), (6, V.one (X.d
  (D.int iK x2))), (7, V.one (X.d (D.int iK x3)))] [(0, Blk.mk [Lf.int iK, Lf.str, Lf.int iK, Lf.int iK] [X.d (D.int iK x4), X.d (D.str
  s5), X.d (D.int iK x6), X.d (D.int iK x7)])] [] 1 0 0 []) (kBlk 3 (kSeq (some [0, 3, 4, 5, 6, 7]) (fun s K => Jn (Γ false) shp n2 j21_3 s K) (kBlk 2 (kSeq (some [0, 3, 4,
  5, 6, 7]) (fun s K => Jn (Γ false) shp n2 j21_4 s K) (kBlk 1 (kLoop (loopK (Γ false) shp n2) [0, 3, 4, 5, 6, 7] lb21_0 (kBlk 0 (kSeq (some [0, 3, 4, 5, 6]) (fun s K => Jn (Γ false) shp n3
  j21_6 s K) (finK (Γ true) rc false (shp 21) (SFunc.results sf21) 0)))))))))
noncomputable def q21_4 (Γ : Bool → SemL) (n1 : Nat) (n2 : Nat) (s0 : ByteArray) (x1 x2 x3 x4 : Int) (s5 : ByteArray) (x6 x7 : Int) : Option Out := Jn (Γ
  false) shp n1 j21_4 (St.mk [(0, V.one (X.d (D.str s0))), (3, V.one (X.ptr 0 0)), (4, V.one (X.nilL 5)), (5, V.one (X.d (D.int iK x1))), (6, V.one (X.d (D.int iK x2))), (7,
  V.one (X.d (D.int iK x3)))] [(0, Blk.mk [Lf.int iK, Lf.str, Lf.int iK, Lf.int iK] [X.d (D.int iK x4), X.d (D.str s5), X.d (D.int iK
  x6), X.d (D.int iK x7)])] [] 1 0 0 []) (kBlk 1 (kLoop (loopK (Γ false) shp n1) [0, 3, 4, 5, 6, 7] lb21_0 (kBlk 0 (kSeq (some [0, 3, 4, 5, 6]) (fun s K => Jn (Γ false) shp n2 j21_6
  s K) (finK (Γ true) rc false (shp 21) (SFunc.results sf21) 0)))))
noncomputable def q21_2 (Γ : Bool → SemL) (n1 : Nat) (n2 : Nat) (n3 : Nat) (s0 : ByteArray) (x1 x2 x3 x4 : Int) (s5 : ByteArray) (x6 x7 : Int) : Option Out :=
  Jn (Γ false) shp n1 j21_2 (St.mk [(0, V.one (X.d (D.str s0))), (3, V.one (X.ptr 0 0)), (4, V.one (X.nilL 5)), (5, V.one (X.d (D.int iK x1))), (6, V.one (X.d (D.int iK
  x2))), (7, V.one (X.d (D.int iK x3)))] [(0, Blk.mk [Lf.int iK, Lf.str, Lf.int iK, Lf.int iK] [X.d (D.int iK x4), X.d (D.str s5), X.d (D.int
  iK x6), X.d (D.int iK x7)])] [] 1 0 0 []) (kLoop (loopK (Γ false) shp n1) [0, 3, 4, 5, 6, 7] lb21_1 (kBlk 3 (kSeq (some [0, 3, 4, 5, 6, 7]) (fun s K => Jn (Γ false) shp n2
  j21_3 s K) (kBlk 2 (kSeq (some [0, 3, 4, 5, 6, 7]) (fun s K => Jn (Γ false) shp n2 j21_4 s K) (kBlk 1 (kLoop (loopK (Γ false) shp n2) [0, 3, 4, 5, 6, 7] lb21_0 (kBlk 0 (kSeq (some [0, 3, 4,
  5, 6]) (fun s K => Jn (Γ false) shp n3 j21_6 s K) (finK (Γ true) rc false (shp 21) (SFunc.results sf21) 0))))))))))
noncomputable def q21_3 (Γ : Bool → SemL) (n1 : Nat) (n2 : Nat) (s0 : ByteArray) (x1 x2 x3 x4 : Int) (s5 : ByteArray) (x6 x7 : Int) : Option Out := Jn (Γ
  false) shp n1 j21_3 (St.mk [(0, V.one (X.d (D.str s0))), (3, V.one (X.ptr 0 0)), (4, V.one (X.nilL 5)), (5, V.one (X.d (D.int iK x1))), (6, V.one (X.d (D.int iK x2))), (7,
  V.one (X.d (D.int iK x3)))] [(0, Blk.mk [Lf.int iK, Lf.str, Lf.int iK, Lf.int iK] [X.d (D.int iK x4), X.d (D.str s5), X.d (D.int iK
  x6), X.d (D.int iK x7)])] [] 1 0 0 []) (kBlk 2 (kSeq (some [0, 3, 4, 5, 6, 7]) (fun s K => Jn (Γ false) shp n1 j21_4 s K) (kBlk 1 (kLoop (loopK (Γ false) shp n1) [0, 3, 4, 5, 6, 7]
  lb21_0 (kBlk 0 (kSeq (some [0, 3, 4, 5, 6]) (fun s K => Jn (Γ false) shp n2 j21_6 s K) (finK (Γ true) rc false (shp 21) (SFunc.results sf21) 0)))))))
noncomputable def e47 (Γ : Bool → SemL) (n1 : Nat) (s0 : ByteArray) : Option Out := runF Γ shp rc false (shp 47) sf47 n1 [V.one (X.d (D.str s0))] []
noncomputable def q21_5 (Γ : Bool → SemL) (n1 : Nat) (n2 : Nat) (s0 : ByteArray) (x1 x2 x3 x4 : Int) (s5 : ByteArray) (x6 x7 x8 : Int) (s9 : ByteArray)
  (x10 x11 x12 : Int) : Option Out := Jn (Γ false) shp n1 j21_5 (St.mk [(0, V.one (X.d (D.str s0))), (3, V.one (X.ptr 0 0)), (4, V.one (X.nilL 5)), (5, V.one (X.d (D.int
  iK x1))), (6, V.one (X.d (D.int iK x2))), (7, V.one (X.d (D.int iK x3))), (9, V.one (X.ptr 1 0))] [(0, Blk.mk [Lf.int iK, Lf.str, Lf.int iK,
  Lf.int iK] [X.d (D.int iK x4), X.d (D.str s5), X.d (D.int iK x6), X.d (D.int iK x7)]), (1, Blk.mk [Lf.int iK, Lf.str, Lf.int iK, Lf.int
  iK, Lf.int iK] [X.d (D.int iK x8), X.d (D.str s9), X.d (D.int iK x10), X.d (D.int iK x11), X.d (D.int iK x12)])] [] 2 0 0 []) (kBlk 1
  (kLoop (loopK (Γ false) shp n1) [0, 3, 4, 5, 6, 7] lb21_0 (kBlk 0 (kSeq (some [0, 3, 4, 5, 6]) (fun s K => Jn (Γ false) shp n2 j21_6 s K) (finK (Γ true) rc false (shp 21) (SFunc.results
  sf21) 0)))))
noncomputable def e76 (Γ : Bool → SemL) (n1 : Nat) (x0 : Int) : Option Out := runF Γ shp rc false (shp 76) sf76 n1 [V.one (X.d (D.int uK x0))] []
noncomputable def l47_0 (n0 : Nat) (Γ : Bool → SemL) (n2 : Nat) (s0 : ByteArray) (x1 x2 : Int) (s3 : ByteArray) (x4 x5 x6 : Int) : Option Out := loopK (Γ false) shp n0
  [0, 2, 4] lb47_0 (St.mk [(0, V.one (X.d (D.str s0))), (2, V.one (X.ptr 0 0)), (4, V.one (X.d (D.int iK x1)))] [(0, Blk.mk [Lf.int iK, Lf.str, Lf.int iK, Lf.int
  iK, Lf.int iK] [X.d (D.int iK x2), X.d (D.str s3), X.d (D.int iK x4), X.d (D.int iK x5), X.d (D.int iK x6)])] [] 1 0 0 []) (kBlk 1
  (kSeq (some [0, 2, 4]) (fun s K => Jn (Γ false) shp n2 j47_1 s K) (kBlk 0 (kSeq (some [0, 2]) (fun s K => Jn (Γ false) shp n2 j47_8 s K) (finK (Γ true) rc false (shp 47) (SFunc.results
  sf47) 0)))))
noncomputable def e77 (Γ : Bool → SemL) (n1 : Nat) (x0 : Int) : Option Out := runF Γ shp rc false (shp 77) sf77 n1 [V.one (X.d (D.int uK x0))] []
noncomputable def l47_1 (n0 : Nat) (Γ : Bool → SemL) (n2 : Nat) (s0 : ByteArray) (x1 x2 x3 : Int) (s4 : ByteArray) (x5 x6 x7 : Int) : Option Out := loopK (Γ
  false) shp n0 [0, 2, 4, 5] lb47_1 (St.mk [(0, V.one (X.d (D.str s0))), (2, V.one (X.ptr 0 0)), (4, V.one (X.d (D.int iK x1))), (5, V.one (X.d (D.int iK x2)))] [(0, Blk.mk
  [Lf.int iK, Lf.str, Lf.int iK, Lf.int iK, Lf.int iK] [X.d (D.int iK x3), X.d (D.str s4), X.d (D.int iK x5), X.d (D.int iK x6),
  X.d (D.int iK x7)])] [] 1 0 0 []) (kBlk 3 (kSeq (some [0, 2, 4, 5]) (fun s K => Jn (Γ false) shp n2 j47_6 s K) (kBlk 0 (kSeq (some [0, 2]) (fun s K => Jn (Γ false) shp n2 j47_8 s
  K) (finK (Γ true) rc false (shp 47) (SFunc.results sf47) 0)))))
noncomputable def q47_8 (Γ : Bool → SemL) (n1 : Nat) (s0 : ByteArray) (x1 : Int) (s2 : ByteArray) (x3 x4 x5 : Int) : Option Out := Jn (Γ false) shp n1 j47_8 (St.mk [(0, V.one
  (X.d (D.str s0))), (2, V.one (X.ptr 0 0))] [(0, Blk.mk [Lf.int iK, Lf.str, Lf.int iK, Lf.int iK, Lf.int iK] [X.d (D.int iK x1), X.d (D.str s2),
  X.d (D.int iK x3), X.d (D.int iK x4), X.d (D.int iK x5)])] [] 1 0 0 []) (finK (Γ true) rc false (shp 47) (SFunc.results sf47) 0)
noncomputable def l21_0_v1 (n0 : Nat) (Γ : Bool → SemL) (n2 : Nat) (s0 : ByteArray) (r1 : List (List D)) (x2 x3 x4 x5 : Int) (s6 : ByteArray) (x7 x8 : Int) :
  Option Out := loopK (Γ false) shp n0 [0, 3, 4, 5, 6, 7] lb21_0 (St.mk [(0, V.one (X.d (D.str s0))), (3, V.one (X.ptr 0 0)), (4, V.one (X.own 0 51 5 r1)), (5, V.one (X.d (D.int iK
  x2))), (6, V.one (X.d (D.int iK x3))), (7, V.one (X.d (D.int iK x4)))] [(0, Blk.mk [Lf.int iK, Lf.str, Lf.int iK, Lf.int iK] [X.d (D.int
  iK x5), X.d (D.str s6), X.d (D.int iK x7), X.d (D.int iK x8)])] [0] 1 1 0 []) (kBlk 0 (kSeq (some [0, 3, 4, 5, 6]) (fun s K => Jn (Γ false) shp n2 j21_6 s K)
  (finK (Γ true) rc false (shp 21) (SFunc.results sf21) 0)))
noncomputable def q47_0 (Γ : Bool → SemL) (n1 : Nat) (n2 : Nat) (s0 : ByteArray) (x1 x2 : Int) (s3 : ByteArray) (x4 x5 x6 : Int) : Option Out := Jn (Γ false) shp n1
  j47_0 (St.mk [(0, V.one (X.d (D.str s0))), (2, V.one (X.ptr 0 0)), (4, V.one (X.d (D.int iK x1)))] [(0, Blk.mk [Lf.int iK, Lf.str, Lf.int iK, Lf.int iK,
  Lf.int iK] [X.d (D.int iK x2), X.d (D.str s3), X.d (D.int iK x4), X.d (D.int iK x5), X.d (D.int iK x6)])] [] 1 0 0 []) (kLoop (loopK (Γ false)
  shp n1) [0, 2, 4] lb47_0 (kBlk 1 (kSeq (some [0, 2, 4]) (fun s K => Jn (Γ false) shp n2 j47_1 s K) (kBlk 0 (kSeq (some [0, 2]) (fun s K => Jn (Γ false) shp n2 j47_8 s K) (finK (Γ true) rc
  false (shp 47) (SFunc.results sf47) 0))))))
noncomputable def q47_1 (Γ : Bool → SemL) (n1 : Nat) (s0 : ByteArray) (x1 x2 : Int) (s3 : ByteArray) (x4 x5 x6 : Int) : Option Out := Jn (Γ false) shp n1 j47_1 (St.mk
  [(0, V.one (X.d (D.str s0))), (2, V.one (X.ptr 0 0)), (4, V.one (X.d (D.int iK x1)))] [(0, Blk.mk [Lf.int iK, Lf.str, Lf.int iK, Lf.int iK, Lf.int
  iK] [X.d (D.int iK x2), X.d (D.str s3), X.d (D.int iK x4), X.d (D.int iK x5), X.d (D.int iK x6)])] [] 1 0 0 []) (kBlk 0 (kSeq (some [0, 2]) (fun
  s K => Jn (Γ false) shp n1 j47_8 s K) (finK (Γ true) rc false (shp 47) (SFunc.results sf47) 0)))
noncomputable def q47_4 (Γ : Bool → SemL) (n1 : Nat) (n2 : Nat) (s0 : ByteArray) (x1 x2 x3 : Int) (s4 : ByteArray) (x5 x6 x7 : Int) : Option Out := Jn (Γ
  false) shp n1 j47_4 (St.mk [(0, V.one (X.d (D.str s0))), (2, V.one (X.ptr 0 0)), (4, V.one (X.d (D.int iK x1))), (5, V.one (X.d (D.int iK x2)))] [(0, Blk.mk [Lf.int
  iK, Lf.str, Lf.int iK, Lf.int iK, Lf.int iK] [X.d (D.int iK x3), X.d (D.str s4), X.d (D.int iK x5), X.d (D.int iK x6), X.d
  (D.int iK x7)])] [] 1 0 0 []) (kLoop (loopK (Γ false) shp n1) [0, 2, 4, 5] lb47_1 (kBlk 3 (kSeq (some [0, 2, 4, 5]) (fun s K => Jn (Γ false) shp n2 j47_6 s K) (kBlk 0 (kSeq (some
  [0, 2]) (fun s K => Jn (Γ false) shp n2 j47_8 s K) (finK (Γ true) rc false (shp 47) (SFunc.results sf47) 0))))))
noncomputable def q47_6 (Γ : Bool → SemL) (n1 : Nat) (s0 : ByteArray) (x1 x2 x3 : Int) (s4 : ByteArray) (x5 x6 x7 : Int) : Option Out := Jn (Γ false) shp n1
  j47_6 (St.mk [(0, V.one (X.d (D.str s0))), (2, V.one (X.ptr 0 0)), (4, V.one (X.d (D.int iK x1))), (5, V.one (X.d (D.int iK x2)))] [(0, Blk.mk [Lf.int iK, Lf.str,
  Lf.int iK, Lf.int iK, Lf.int iK] [X.d (D.int iK x3), X.d (D.str s4), X.d (D.int iK x5), X.d (D.int iK x6), X.d (D.int iK
  x7)])] [] 1 0 0 []) (kBlk 0 (kSeq (some [0, 2]) (fun s K => Jn (Γ false) shp n1 j47_8 s K) (finK (Γ true) rc false (shp 47) (SFunc.results sf47) 0)))
noncomputable def e79 (Γ : Bool → SemL) (n1 : Nat) (s0 : ByteArray) : Option Out := runF Γ shp rc false (shp 79) sf79 n1 [V.one (X.d (D.str s0))] []
noncomputable def q47_9 (Γ : Bool → SemL) (n1 : Nat) (s0 : ByteArray) (x1 : Int) (s2 : ByteArray) (x3 x4 x5 : Int) : Option Out := Jn (Γ false) shp n1 j47_9 (St.mk [(0, V.one
  (X.d (D.str s0))), (2, V.one (X.ptr 0 0))] [(0, Blk.mk [Lf.int iK, Lf.str, Lf.int iK, Lf.int iK, Lf.int iK] [X.d (D.int iK x1), X.d (D.str s2),
  X.d (D.int iK x3), X.d (D.int iK x4), X.d (D.int iK x5)])] [] 1 0 0 []) (finK (Γ true) rc false (shp 47) (SFunc.results sf47) 0)
noncomputable def q21_1_v1 (Γ : Bool → SemL) (n1 : Nat) (n2 : Nat) (s0 : ByteArray) (r1 : List (List D)) (x2 x3 x4 x5 : Int) (s6 : ByteArray) (x7 x8 : Int) :
  Option Out := Jn (Γ false) shp n1 j21_1 (St.mk [(0, V.one (X.d (D.str s0))), (3, V.one (X.ptr 0 0)), (4, V.one (X.own 0 51 5 r1)), (5, V.one (X.d (D.int iK x2))), (6, V.one (X.d
  (D.int iK x3))), (7, V.one (X.d (D.int iK x4)))] [(0, Blk.mk [Lf.int iK, Lf.str, Lf.int iK, Lf.int iK] [X.d (D.int iK x5), X.d (D.str
  s6), X.d (D.int iK x7), X.d (D.int iK x8)])] [0] 1 1 0 []) (kLoop (loopK (Γ false) shp n1) [0, 3, 4, 5, 6, 7] lb21_0 (kBlk 0 (kSeq (some [0, 3, 4, 5, 6]) (fun s K => Jn (Γ
  false) shp n2 j21_6 s K) (finK (Γ true) rc false (shp 21) (SFunc.results sf21) 0))))
noncomputable def q21_6_v1 (Γ : Bool → SemL) (n1 : Nat) (s0 : ByteArray) (r1 : List (List D)) (x2 x3 x4 : Int) (s5 : ByteArray) (x6 x7 : Int) : Option Out := Jn (Γ
  false) shp n1 j21_6 (St.mk [(0, V.one (X.d (D.str s0))), (3, V.one (X.ptr 0 0)), (4, V.one (X.own 0 51 5 r1)), (5, V.one (X.d (D.int iK x2))), (6, V.one (X.d (D.int iK
  x3)))] [(0, Blk.mk [Lf.int iK, Lf.str, Lf.int iK, Lf.int iK] [X.d (D.int iK x4), X.d (D.str s5), X.d (D.int iK x6), X.d (D.int iK
  x7)])] [0] 1 1 0 []) (finK (Γ true) rc false (shp 21) (SFunc.results sf21) 0)
noncomputable def q47_2 (Γ : Bool → SemL) (n1 : Nat) (s0 : ByteArray) (x1 x2 : Int) (s3 : ByteArray) (x4 x5 x6 : Int) : Option Out := Jn (Γ false) shp n1 j47_2 (St.mk
  [(0, V.one (X.d (D.str s0))), (2, V.one (X.ptr 0 0)), (4, V.one (X.d (D.int iK x1)))] [(0, Blk.mk [Lf.int iK, Lf.str, Lf.int iK, Lf.int iK, Lf.int
  iK] [X.d (D.int iK x2), X.d (D.str s3), X.d (D.int iK x4), X.d (D.int iK x5), X.d (D.int iK x6)])] [] 1 0 0 []) (kBlk 0 (kSeq (some [0, 2]) (fun
  s K => Jn (Γ false) shp n1 j47_8 s K) (finK (Γ true) rc false (shp 47) (SFunc.results sf47) 0)))
noncomputable def q47_5 (Γ : Bool → SemL) (n1 : Nat) (n2 : Nat) (s0 : ByteArray) (x1 x2 x3 : Int) (s4 : ByteArray) (x5 x6 x7 : Int) : Option Out := Jn (Γ
  false) shp n1 j47_5 (St.mk [(0, V.one (X.d (D.str s0))), (2, V.one (X.ptr 0 0)), (4, V.one (X.d (D.int iK x1))), (5, V.one (X.d (D.int iK x2)))] [(0, Blk.mk [Lf.int
  iK, Lf.str, Lf.int iK, Lf.int iK, Lf.int iK] [X.d (D.int iK x3), X.d (D.str s4), X.d (D.int iK x5), X.d (D.int iK x6), X.d
  (D.int iK x7)])] [] 1 0 0 []) (kLoop (loopK (Γ false) shp n1) [0, 2, 4, 5] lb47_1 (kBlk 3 (kSeq (some [0, 2, 4, 5]) (fun s K => Jn (Γ false) shp n2 j47_6 s K) (kBlk 0 (kSeq (some
  [0, 2]) (fun s K => Jn (Γ false) shp n2 j47_8 s K) (finK (Γ true) rc false (shp 47) (SFunc.results sf47) 0))))))
noncomputable def q47_7 (Γ : Bool → SemL) (n1 : Nat) (s0 : ByteArray) (x1 x2 x3 : Int) (s4 : ByteArray) (x5 x6 x7 : Int) : Option Out := Jn (Γ false) shp n1
  j47_7 (St.mk [(0, V.one (X.d (D.str s0))), (2, V.one (X.ptr 0 0)), (4, V.one (X.d (D.int iK x1))), (5, V.one (X.d (D.int iK x2)))] [(0, Blk.mk [Lf.int iK, Lf.str,
  Lf.int iK, Lf.int iK, Lf.int iK] [X.d (D.int iK x3), X.d (D.str s4), X.d (D.int iK x5), X.d (D.int iK x6), X.d (D.int iK
  x7)])] [] 1 0 0 []) (kBlk 0 (kSeq (some [0, 2]) (fun s K => Jn (Γ false) shp n1 j47_8 s K) (finK (Γ true) rc false (shp 47) (SFunc.results sf47) 0)))
noncomputable def l79_0 (n0 : Nat) (Γ : Bool → SemL) (n2 : Nat) (s0 : ByteArray) (r1 : List (List D)) (x2 x3 : Int) : Option Out := loopK (Γ false) shp n0 [0, 5, 6, 7] lb79_0 (St.mk
  [(0, V.one (X.d (D.str s0))), (5, V.one (X.own 0 9 1 r1)), (6, V.one (X.d (D.int iK x2))), (7, V.one (X.d (D.int iK x3)))] [] [0] 0 1 0 []) (kBlk 0 (kSeq (some [0]) (fun s
  K => Jn (Γ false) shp n2 j79_2 s K) (finK (Γ true) rc false (shp 79) (SFunc.results sf79) 0)))
noncomputable def l21_1_v1 (n0 : Nat) (Γ : Bool → SemL) (n2 : Nat) (n3 : Nat) (s0 : ByteArray) (r1 : List (List D)) (x2 x3 x4 x5 : Int) (s6 : ByteArray) (x7 x8 : Int) : Option Out := loopK (Γ false) shp n0 [0, 3, 4, 5, 6, 7] lb21_1 (St.mk [(0, V.one (X.d (D.str s0))), (3, V.one (X.ptr 0 0)), (4, V.one (X.own 0 51 5 r1)), (5, V.one (X.d (D.int
  iK x2))), (6, V.one (X.d (D.int iK x3))), (7, V.one (X.d (D.int iK x4)))] [(0, Blk.mk [Lf.int iK, Lf.str, Lf.int iK, Lf.int iK] [X.d
  (D.int iK x5), X.d (D.str s6), X.d (D.int iK x7), X.d (D.int iK x8)])] [0] 1 1 0 []) (kBlk 3 (kSeq (some [0, 3, 4, 5, 6, 7]) (fun s K => Jn (Γ false) shp n2 j21_3
  s K) (kBlk 2 (kSeq (some [0, 3, 4, 5, 6, 7]) (fun s K => Jn (Γ false) shp n2 j21_4 s K) (kBlk 1 (kLoop (loopK (Γ false) shp n2) [0, 3, 4, 5, 6, 7] lb21_0 (kBlk 0 (kSeq (some [0, 3, 4, 5,
  6]) (fun s K => Jn (Γ false) shp n3 j21_6 s K) (finK (Γ true) rc false (shp 21) (SFunc.results sf21) 0)))))))))
noncomputable def q21_4_v1 (Γ : Bool → SemL) (n1 : Nat) (n2 : Nat) (s0 : ByteArray) (r1 : List (List D)) (x2 x3 x4 x5 : Int) (s6 : ByteArray) (x7 x8 : Int) :
  Option Out := Jn (Γ false) shp n1 j21_4 (St.mk [(0, V.one (X.d (D.str s0))), (3, V.one (X.ptr 0 0)), (4, V.one (X.own 0 51 5 r1)), (5, V.one (X.d (D.int iK x2))), (6, V.one (X.d
  (D.int iK x3))), (7, V.one (X.d (D.int iK x4)))] [(0, Blk.mk [Lf.int iK, Lf.str, Lf.int iK, Lf.int iK] [X.d (D.int iK x5), X.d (D.str
  s6), X.d (D.int iK x7), X.d (D.int iK x8)])] [0] 1 1 0 []) (kBlk 1 (kLoop (loopK (Γ false) shp n1) [0, 3, 4, 5, 6, 7] lb21_0 (kBlk 0 (kSeq (some [0, 3, 4, 5, 6]) (fun s K
  => Jn (Γ false) shp n2 j21_6 s K) (finK (Γ true) rc false (shp 21) (SFunc.results sf21) 0)))))
noncomputable def q47_3 (Γ : Bool → SemL) (n1 : Nat) (s0 : ByteArray) (x1 x2 : Int) (s3 : ByteArray) (x4 x5 x6 : Int) : Option Out := Jn (Γ false) shp n1 j47_3 (St.mk
  [(0, V.one (X.d (D.str s0))), (2, V.one (X.ptr 0 0)), (4, V.one (X.d (D.int iK x1)))] [(0, Blk.mk [Lf.int iK, Lf.str, Lf.int iK, Lf.int iK, Lf.int
  iK] [X.d (D.int iK x2), X.d (D.str s3), X.d (D.int iK x4), X.d (D.int iK x5), X.d (D.int iK x6)])] [] 1 0 0 []) (kBlk 0 (kSeq (some [0, 2]) (fun
  s K => Jn (Γ false) shp n1 j47_8 s K) (finK (Γ true) rc false (shp 47) (SFunc.results sf47) 0)))
noncomputable def q79_0 (Γ : Bool → SemL) (n1 : Nat) (n2 : Nat) (s0 : ByteArray) (r1 : List (List D)) (x2 x3 : Int) : Option Out := Jn (Γ false) shp n1 j79_0 (St.mk [(0, V.one (X.d
  (D.str s0))), (5, V.one (X.own 0 9 1 r1)), (6, V.one (X.d (D.int iK x2))), (7, V.one (X.d (D.int iK x3)))] [] [0] 0 1 0 []) (kLoop (loopK (Γ false) shp n1) [0, 5, 6, 7]
  lb79_0 (kBlk 0 (kSeq (some [0]) (fun s K => Jn (Γ false) shp n2 j79_2 s K) (finK (Γ true) rc false (shp 79) (SFunc.results sf79) 0))))
noncomputable def q79_2 (Γ : Bool → SemL) (n1 : Nat) (s0 : ByteArray) : Option Out := Jn (Γ false) shp n1 j79_2 (St.mk [(0, V.one (X.d (D.str s0)))] [] [] 0 0 0 []) (finK (Γ true) rc false
  (shp 79) (SFunc.results sf79) 0)
noncomputable def q21_2_v1 (Γ : Bool → SemL) (n1 : Nat) (n2 : Nat) (n3 : Nat) (s0 : ByteArray) (r1 : List (List D)) (x2 x3 x4 x5 : Int) (s6 : ByteArray) (x7 x8 : Int) : Option Out := Jn (Γ false) shp n1 j21_2 (St.mk [(0, V.one (X.d (D.str s0))), (3, V.one (X.ptr 0 0)), (4, V.one (X.own 0 51 5 r1)), (5, V.one (X.d (D.int iK x2))), (6,
  V.one (X.d (D.int iK x3))), (7, V.one (X.d (D.int iK x4)))] [(0, Blk.mk [Lf.int iK, Lf.str, Lf.int iK, Lf.int iK] [X.d (D.int iK x5),
  X.d (D.str s6), X.d (D.int iK x7), X.d (D.int iK x8)])] [0] 1 1 0 []) (kLoop (loopK (Γ false) shp n1) [0, 3, 4, 5, 6, 7] lb21_1 (kBlk 3 (kSeq (some [0, 3, 4, 5, 6, 7])
  (fun s K => Jn (Γ false) shp n2 j21_3 s K) (kBlk 2 (kSeq (some [0, 3, 4, 5, 6, 7]) (fun s K => Jn (Γ false) shp n2 j21_4 s K) (kBlk 1 (kLoop (loopK (Γ false) shp n2) [0, 3, 4, 5, 6, 7]
  lb21_0 (kBlk 0 (kSeq (some [0, 3, 4, 5, 6]) (fun s K => Jn (Γ false) shp n3 j21_6 s K) (finK (Γ true) rc false (shp 21) (SFunc.results sf21) 0))))))))))
noncomputable def q21_3_v1 (Γ : Bool → SemL) (n1 : Nat) (n2 : Nat) (s0 : ByteArray) (r1 : List (List D)) (x2 x3 x4 x5 : Int) (s6 : ByteArray) (x7 x8 : Int) :
  Option Out := Jn (Γ false) shp n1 j21_3 (St.mk [(0, V.one (X.d (D.str s0))), (3, V.one (X.ptr 0 0)), (4, V.one (X.own 0 51 5 r1)), (5, V.one (X.d (D.int iK x2))), (6, V.one (X.d
  (D.int iK x3))), (7, V.one (X.d (D.int iK x4)))] [(0, Blk.mk [Lf.int iK, Lf.str, Lf.int iK, Lf.int iK] [X.d (D.int iK x5), X.d (D.str
  s6), X.d (D.int iK x7), X.d (D.int iK x8)])] [0] 1 1 0 []) (kBlk 2 (kSeq (some [0, 3, 4, 5, 6, 7]) (fun s K => Jn (Γ false) shp n1 j21_4 s K) (kBlk 1 (kLoop (loopK (Γ
  false) shp n1) [0, 3, 4, 5, 6, 7] lb21_0 (kBlk 0 (kSeq (some [0, 3, 4, 5, 6]) (fun s K => Jn (Γ false) shp n2 j21_6 s K) (finK (Γ true) rc false (shp 21) (SFunc.results sf21) 0)))))))
noncomputable def q21_5_v1 (Γ : Bool → SemL) (n1 : Nat) (n2 : Nat) (s0 : ByteArray) (r1 : List (List D)) (x2 x3 x4 x5 : Int) (s6 : ByteArray) (x7 x8 x9 : Int) (s10 : ByteArray) (x11 x12 x13 : Int) : Option Out := Jn (Γ false) shp n1 j21_5 (St.mk [(0, V.one (X.d (D.str s0))), (3, V.one (X.ptr 0 0)), (4, V.one (X.own 0 51 5
  r1)), (5, V.one (X.d (D.int iK x2))), (6, V.one (X.d (D.int iK x3))), (7, V.one (X.d (D.int iK x4))), (9, V.one (X.ptr 1 0))] [(0, Blk.mk [Lf.int iK,
  Lf.str, Lf.int iK, Lf.int iK] [X.d (D.int iK x5), X.d (D.str s6), X.d (D.int iK x7), X.d (D.int iK x8)]), (1, Blk.mk [Lf.int iK,
  Lf.str, Lf.int iK, Lf.int iK, Lf.int iK] [X.d (D.int iK x9), X.d (D.str s10), X.d (D.int iK x11), X.d (D.int iK x12), X.d (D.int
  iK x13)])] [0] 2 1 0 []) (kBlk 1 (kLoop (loopK (Γ false) shp n1) [0, 3, 4, 5, 6, 7] lb21_0 (kBlk 0 (kSeq (some [0, 3, 4, 5, 6]) (fun s K => Jn (Γ false) shp n2 j21_6 s K) (finK (Γ
  true) rc false (shp 21) (SFunc.results sf21) 0)))))
noncomputable def e92 (Γ : Bool → SemL) (n1 : Nat) (s0 s1 : ByteArray) : Option Out := runF Γ shp rc false (shp 92) sf92 n1 [V.one (X.d (D.str s0)), V.one (X.d (D.str s1))] []
noncomputable def q79_1 (Γ : Bool → SemL) (n1 : Nat) (n2 : Nat) (s0 : ByteArray) (r1 : List (List D)) (x2 x3 : Int) : Option Out := Jn (Γ false) shp n1 j79_1 (St.mk [(0, V.one (X.d
  (D.str s0))), (5, V.one (X.own 0 9 1 r1)), (6, V.one (X.d (D.int iK x2))), (7, V.one (X.d (D.int iK x3)))] [] [0] 0 1 0 []) (kLoop (loopK (Γ false) shp n1) [0, 5, 6, 7]
  lb79_0 (kBlk 0 (kSeq (some [0]) (fun s K => Jn (Γ false) shp n2 j79_2 s K) (finK (Γ true) rc false (shp 79) (SFunc.results sf79) 0))))
noncomputable def q79_3 (Γ : Bool → SemL) (n1 : Nat) : Option Out := Jn (Γ false) shp n1 j79_3 (St.mk [] [] [] 0 0 0 []) (finK (Γ true) rc false (shp 79) (SFunc.results sf79) 0)
noncomputable def e99 (Γ : Bool → SemL) (n1 : Nat) (s0 s1 : ByteArray) : Option Out := runF Γ shp rc false (shp 99) sf99 n1 [V.one (X.d (D.str s0)), V.one (X.d (D.str s1))] []
end Go.Proofs.Ytbmcafehpgimfaa.Ps
