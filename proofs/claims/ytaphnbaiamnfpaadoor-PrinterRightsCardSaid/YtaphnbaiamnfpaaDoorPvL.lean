/- What the pieces of the functions do, as functions of their data. Printed by pack4.py. -/
import Derived.Test.YtaphnbaiamnfpaaDoorPv0
namespace Go.Proofs.YtaphnbaiamnfpaaDoor.Ps
set_option maxHeartbeats 0
set_option maxRecDepth 100000
set_option linter.unusedVariables false
open Go Go.RowKit
noncomputable def e17 (Γ : Bool → SemL) (n1 : Nat) (s0 : ByteArray) : Option Out := runF Γ shp rc false (shp 17) sf17 n1 [V.one (X.d (D.str s0))] []
noncomputable def q17_0 (Γ : Bool → SemL) (n1 : Nat) (s0 : ByteArray) (x1 : Int) (s2 : ByteArray) (x3 : Int) (x4 : Int) : Option Out := Jn (Γ false) shp n1 j17_0 (St.mk [(0, V.one (X.d (D.str
  s0))), (3, V.one (X.ptr 0 0))] [(0, Blk.mk [Lf.int IntKind.i64, Lf.str, Lf.int IntKind.i64, Lf.int IntKind.i64] [X.d (D.int IntKind.i64 x1), X.d (D.str s2), X.d (D.int IntKind.i64 x3), X.d
  (D.int IntKind.i64 x4)])] [] 1 0 0 []) (finK (Γ true) rc false (shp 17) (SFunc.results sf17) 0)
noncomputable def l17_0 (n0 : Nat) (Γ : Bool → SemL) (n2 : Nat) (s0 : ByteArray) (x1 : Int) (x2 : Int) (x3 : Int) (x4 : Int) (s5 : ByteArray) (x6 : Int) (x7 : Int) : Option Out := loopK (Γ
  false) shp n0 [0, 3, 4, 5, 6, 7] lb17_0 (St.mk [(0, V.one (X.d (D.str s0))), (3, V.one (X.ptr 0 0)), (4, V.one (X.nilL 5)), (5, V.one (X.d (D.int IntKind.i64 x1))), (6, V.one (X.d (D.int
  IntKind.i64 x2))), (7, V.one (X.d (D.int IntKind.i64 x3)))] [(0, Blk.mk [Lf.int IntKind.i64, Lf.str, Lf.int IntKind.i64, Lf.int IntKind.i64] [X.d (D.int IntKind.i64 x4), X.d (D.str s5), X.d
  (D.int IntKind.i64 x6), X.d (D.int IntKind.i64 x7)])] [] 1 0 0 []) (kBlk 0 (kSeq (some [0, 3, 4, 5, 6]) (fun s K => Jn (Γ false) shp n2 j17_6 s K) (finK (Γ true) rc false (shp 17)
  (SFunc.results sf17) 0)))
noncomputable def q17_1 (Γ : Bool → SemL) (n1 : Nat) (n2 : Nat) (s0 : ByteArray) (x1 : Int) (x2 : Int) (x3 : Int) (x4 : Int) (s5 : ByteArray) (x6 : Int) (x7 : Int) : Option Out := Jn (Γ
  false) shp n1 j17_1 (St.mk [(0, V.one (X.d (D.str s0))), (3, V.one (X.ptr 0 0)), (4, V.one (X.nilL 5)), (5, V.one (X.d (D.int IntKind.i64 x1))), (6, V.one (X.d (D.int IntKind.i64 x2))), (7,
  V.one (X.d (D.int IntKind.i64 x3)))] [(0, Blk.mk [Lf.int IntKind.i64, Lf.str, Lf.int IntKind.i64, Lf.int IntKind.i64] [X.d (D.int IntKind.i64 x4), X.d (D.str s5), X.d (D.int IntKind.i64
  x6), X.d (D.int IntKind.i64 x7)])] [] 1 0 0 []) (kLoop (loopK (Γ false) shp n1) [0, 3, 4, 5, 6, 7] lb17_0 (kBlk 0 (kSeq (some [0, 3, 4, 5, 6]) (fun s K => Jn (Γ false) shp n2 j17_6 s K)
  (finK (Γ true) rc false (shp 17) (SFunc.results sf17) 0))))
noncomputable def q17_6 (Γ : Bool → SemL) (n1 : Nat) (s0 : ByteArray) (x1 : Int) (x2 : Int) (x3 : Int) (s4 : ByteArray) (x5 : Int) (x6 : Int) : Option Out := Jn (Γ false) shp n1 j17_6 (St.mk
  [(0, V.one (X.d (D.str s0))), (3, V.one (X.ptr 0 0)), (4, V.one (X.nilL 5)), (5, V.one (X.d (D.int IntKind.i64 x1))), (6, V.one (X.d (D.int IntKind.i64 x2)))] [(0, Blk.mk [Lf.int
  IntKind.i64, Lf.str, Lf.int IntKind.i64, Lf.int IntKind.i64] [X.d (D.int IntKind.i64 x3), X.d (D.str s4), X.d (D.int IntKind.i64 x5), X.d (D.int IntKind.i64 x6)])] [] 1 0 0 []) (finK (Γ
  true) rc false (shp 17) (SFunc.results sf17) 0)
noncomputable def l17_1 (n0 : Nat) (Γ : Bool → SemL) (n2 : Nat) (n3 : Nat) (s0 : ByteArray) (x1 : Int) (x2 : Int) (x3 : Int) (x4 : Int) (s5 : ByteArray) (x6 : Int) (x7 : Int) : Option Out :=
  loopK (Γ false) shp n0 [0, 3, 4, 5, 6, 7] lb17_1 (St.mk [(0, V.one (X.d (D.str s0))), (3, V.one (X.ptr 0 0)), (4, V.one (X.nilL 5)), (5, V.one (X.d (D.int IntKind.i64 x1))), (6, V.one (X.d
  (D.int IntKind.i64 x2))), (7, V.one (X.d (D.int IntKind.i64 x3)))] [(0, Blk.mk [Lf.int IntKind.i64, Lf.str, Lf.int IntKind.i64, Lf.int IntKind.i64] [X.d (D.int IntKind.i64 x4), X.d (D.str
  s5), X.d (D.int IntKind.i64 x6), X.d (D.int IntKind.i64 x7)])] [] 1 0 0 []) (kBlk 3 (kSeq (some [0, 3, 4, 5, 6, 7]) (fun s K => Jn (Γ false) shp n2 j17_3 s K) (kBlk 2 (kSeq (some [0, 3, 4,
  5, 6, 7]) (fun s K => Jn (Γ false) shp n2 j17_4 s K) (kBlk 1 (kLoop (loopK (Γ false) shp n2) [0, 3, 4, 5, 6, 7] lb17_0 (kBlk 0 (kSeq (some [0, 3, 4, 5, 6]) (fun s K => Jn (Γ false) shp n3
  j17_6 s K) (finK (Γ true) rc false (shp 17) (SFunc.results sf17) 0)))))))))
noncomputable def q17_4 (Γ : Bool → SemL) (n1 : Nat) (n2 : Nat) (s0 : ByteArray) (x1 : Int) (x2 : Int) (x3 : Int) (x4 : Int) (s5 : ByteArray) (x6 : Int) (x7 : Int) : Option Out := Jn (Γ
  false) shp n1 j17_4 (St.mk [(0, V.one (X.d (D.str s0))), (3, V.one (X.ptr 0 0)), (4, V.one (X.nilL 5)), (5, V.one (X.d (D.int IntKind.i64 x1))), (6, V.one (X.d (D.int IntKind.i64 x2))), (7,
  V.one (X.d (D.int IntKind.i64 x3)))] [(0, Blk.mk [Lf.int IntKind.i64, Lf.str, Lf.int IntKind.i64, Lf.int IntKind.i64] [X.d (D.int IntKind.i64 x4), X.d (D.str s5), X.d (D.int IntKind.i64
  x6), X.d (D.int IntKind.i64 x7)])] [] 1 0 0 []) (kBlk 1 (kLoop (loopK (Γ false) shp n1) [0, 3, 4, 5, 6, 7] lb17_0 (kBlk 0 (kSeq (some [0, 3, 4, 5, 6]) (fun s K => Jn (Γ false) shp n2 j17_6
  s K) (finK (Γ true) rc false (shp 17) (SFunc.results sf17) 0)))))
noncomputable def q17_2 (Γ : Bool → SemL) (n1 : Nat) (n2 : Nat) (n3 : Nat) (s0 : ByteArray) (x1 : Int) (x2 : Int) (x3 : Int) (x4 : Int) (s5 : ByteArray) (x6 : Int) (x7 : Int) : Option Out :=
  Jn (Γ false) shp n1 j17_2 (St.mk [(0, V.one (X.d (D.str s0))), (3, V.one (X.ptr 0 0)), (4, V.one (X.nilL 5)), (5, V.one (X.d (D.int IntKind.i64 x1))), (6, V.one (X.d (D.int IntKind.i64
  x2))), (7, V.one (X.d (D.int IntKind.i64 x3)))] [(0, Blk.mk [Lf.int IntKind.i64, Lf.str, Lf.int IntKind.i64, Lf.int IntKind.i64] [X.d (D.int IntKind.i64 x4), X.d (D.str s5), X.d (D.int
  IntKind.i64 x6), X.d (D.int IntKind.i64 x7)])] [] 1 0 0 []) (kLoop (loopK (Γ false) shp n1) [0, 3, 4, 5, 6, 7] lb17_1 (kBlk 3 (kSeq (some [0, 3, 4, 5, 6, 7]) (fun s K => Jn (Γ false) shp n2
  j17_3 s K) (kBlk 2 (kSeq (some [0, 3, 4, 5, 6, 7]) (fun s K => Jn (Γ false) shp n2 j17_4 s K) (kBlk 1 (kLoop (loopK (Γ false) shp n2) [0, 3, 4, 5, 6, 7] lb17_0 (kBlk 0 (kSeq (some [0, 3, 4,
  5, 6]) (fun s K => Jn (Γ false) shp n3 j17_6 s K) (finK (Γ true) rc false (shp 17) (SFunc.results sf17) 0))))))))))
noncomputable def q17_3 (Γ : Bool → SemL) (n1 : Nat) (n2 : Nat) (s0 : ByteArray) (x1 : Int) (x2 : Int) (x3 : Int) (x4 : Int) (s5 : ByteArray) (x6 : Int) (x7 : Int) : Option Out := Jn (Γ
  false) shp n1 j17_3 (St.mk [(0, V.one (X.d (D.str s0))), (3, V.one (X.ptr 0 0)), (4, V.one (X.nilL 5)), (5, V.one (X.d (D.int IntKind.i64 x1))), (6, V.one (X.d (D.int IntKind.i64 x2))), (7,
  V.one (X.d (D.int IntKind.i64 x3)))] [(0, Blk.mk [Lf.int IntKind.i64, Lf.str, Lf.int IntKind.i64, Lf.int IntKind.i64] [X.d (D.int IntKind.i64 x4), X.d (D.str s5), X.d (D.int IntKind.i64
  x6), X.d (D.int IntKind.i64 x7)])] [] 1 0 0 []) (kBlk 2 (kSeq (some [0, 3, 4, 5, 6, 7]) (fun s K => Jn (Γ false) shp n1 j17_4 s K) (kBlk 1 (kLoop (loopK (Γ false) shp n1) [0, 3, 4, 5, 6, 7]
  lb17_0 (kBlk 0 (kSeq (some [0, 3, 4, 5, 6]) (fun s K => Jn (Γ false) shp n2 j17_6 s K) (finK (Γ true) rc false (shp 17) (SFunc.results sf17) 0)))))))
noncomputable def e38 (Γ : Bool → SemL) (n1 : Nat) (s0 : ByteArray) : Option Out := runF Γ shp rc false (shp 38) sf38 n1 [V.one (X.d (D.str s0))] []
noncomputable def q17_5 (Γ : Bool → SemL) (n1 : Nat) (n2 : Nat) (s0 : ByteArray) (x1 : Int) (x2 : Int) (x3 : Int) (x4 : Int) (s5 : ByteArray) (x6 : Int) (x7 : Int) (x8 : Int) (s9 : ByteArray)
  (x10 : Int) (x11 : Int) (x12 : Int) : Option Out := Jn (Γ false) shp n1 j17_5 (St.mk [(0, V.one (X.d (D.str s0))), (3, V.one (X.ptr 0 0)), (4, V.one (X.nilL 5)), (5, V.one (X.d (D.int
  IntKind.i64 x1))), (6, V.one (X.d (D.int IntKind.i64 x2))), (7, V.one (X.d (D.int IntKind.i64 x3))), (9, V.one (X.ptr 1 0))] [(0, Blk.mk [Lf.int IntKind.i64, Lf.str, Lf.int IntKind.i64,
  Lf.int IntKind.i64] [X.d (D.int IntKind.i64 x4), X.d (D.str s5), X.d (D.int IntKind.i64 x6), X.d (D.int IntKind.i64 x7)]), (1, Blk.mk [Lf.int IntKind.i64, Lf.str, Lf.int IntKind.i64, Lf.int
  IntKind.i64, Lf.int IntKind.i64] [X.d (D.int IntKind.i64 x8), X.d (D.str s9), X.d (D.int IntKind.i64 x10), X.d (D.int IntKind.i64 x11), X.d (D.int IntKind.i64 x12)])] [] 2 0 0 []) (kBlk 1
  (kLoop (loopK (Γ false) shp n1) [0, 3, 4, 5, 6, 7] lb17_0 (kBlk 0 (kSeq (some [0, 3, 4, 5, 6]) (fun s K => Jn (Γ false) shp n2 j17_6 s K) (finK (Γ true) rc false (shp 17) (SFunc.results
  sf17) 0)))))
noncomputable def e70 (Γ : Bool → SemL) (n1 : Nat) (x0 : Int) : Option Out := runF Γ shp rc false (shp 70) sf70 n1 [V.one (X.d (D.int IntKind.u8 x0))] []
noncomputable def l38_0 (n0 : Nat) (Γ : Bool → SemL) (n2 : Nat) (s0 : ByteArray) (x1 : Int) (x2 : Int) (s3 : ByteArray) (x4 : Int) (x5 : Int) (x6 : Int) : Option Out := loopK (Γ false) shp n0
  [0, 2, 4] lb38_0 (St.mk [(0, V.one (X.d (D.str s0))), (2, V.one (X.ptr 0 0)), (4, V.one (X.d (D.int IntKind.i64 x1)))] [(0, Blk.mk [Lf.int IntKind.i64, Lf.str, Lf.int IntKind.i64, Lf.int
  IntKind.i64, Lf.int IntKind.i64] [X.d (D.int IntKind.i64 x2), X.d (D.str s3), X.d (D.int IntKind.i64 x4), X.d (D.int IntKind.i64 x5), X.d (D.int IntKind.i64 x6)])] [] 1 0 0 []) (kBlk 1
  (kSeq (some [0, 2, 4]) (fun s K => Jn (Γ false) shp n2 j38_1 s K) (kBlk 0 (kSeq (some [0, 2]) (fun s K => Jn (Γ false) shp n2 j38_8 s K) (finK (Γ true) rc false (shp 38) (SFunc.results
  sf38) 0)))))
noncomputable def e71 (Γ : Bool → SemL) (n1 : Nat) (x0 : Int) : Option Out := runF Γ shp rc false (shp 71) sf71 n1 [V.one (X.d (D.int IntKind.u8 x0))] []
noncomputable def l38_1 (n0 : Nat) (Γ : Bool → SemL) (n2 : Nat) (s0 : ByteArray) (x1 : Int) (x2 : Int) (x3 : Int) (s4 : ByteArray) (x5 : Int) (x6 : Int) (x7 : Int) : Option Out := loopK (Γ
  false) shp n0 [0, 2, 4, 5] lb38_1 (St.mk [(0, V.one (X.d (D.str s0))), (2, V.one (X.ptr 0 0)), (4, V.one (X.d (D.int IntKind.i64 x1))), (5, V.one (X.d (D.int IntKind.i64 x2)))] [(0, Blk.mk
  [Lf.int IntKind.i64, Lf.str, Lf.int IntKind.i64, Lf.int IntKind.i64, Lf.int IntKind.i64] [X.d (D.int IntKind.i64 x3), X.d (D.str s4), X.d (D.int IntKind.i64 x5), X.d (D.int IntKind.i64 x6),
  X.d (D.int IntKind.i64 x7)])] [] 1 0 0 []) (kBlk 3 (kSeq (some [0, 2, 4, 5]) (fun s K => Jn (Γ false) shp n2 j38_6 s K) (kBlk 0 (kSeq (some [0, 2]) (fun s K => Jn (Γ false) shp n2 j38_8 s
  K) (finK (Γ true) rc false (shp 38) (SFunc.results sf38) 0)))))
noncomputable def q38_8 (Γ : Bool → SemL) (n1 : Nat) (s0 : ByteArray) (x1 : Int) (s2 : ByteArray) (x3 : Int) (x4 : Int) (x5 : Int) : Option Out := Jn (Γ false) shp n1 j38_8 (St.mk [(0, V.one
  (X.d (D.str s0))), (2, V.one (X.ptr 0 0))] [(0, Blk.mk [Lf.int IntKind.i64, Lf.str, Lf.int IntKind.i64, Lf.int IntKind.i64, Lf.int IntKind.i64] [X.d (D.int IntKind.i64 x1), X.d (D.str s2),
  X.d (D.int IntKind.i64 x3), X.d (D.int IntKind.i64 x4), X.d (D.int IntKind.i64 x5)])] [] 1 0 0 []) (finK (Γ true) rc false (shp 38) (SFunc.results sf38) 0)
noncomputable def l17_0_v1 (n0 : Nat) (Γ : Bool → SemL) (n2 : Nat) (s0 : ByteArray) (r1 : List (List D)) (x2 : Int) (x3 : Int) (x4 : Int) (x5 : Int) (s6 : ByteArray) (x7 : Int) (x8 : Int) :
  Option Out := loopK (Γ false) shp n0 [0, 3, 4, 5, 6, 7] lb17_0 (St.mk [(0, V.one (X.d (D.str s0))), (3, V.one (X.ptr 0 0)), (4, V.one (X.own 0 50 5 r1)), (5, V.one (X.d (D.int IntKind.i64
  x2))), (6, V.one (X.d (D.int IntKind.i64 x3))), (7, V.one (X.d (D.int IntKind.i64 x4)))] [(0, Blk.mk [Lf.int IntKind.i64, Lf.str, Lf.int IntKind.i64, Lf.int IntKind.i64] [X.d (D.int
  IntKind.i64 x5), X.d (D.str s6), X.d (D.int IntKind.i64 x7), X.d (D.int IntKind.i64 x8)])] [0] 1 1 0 []) (kBlk 0 (kSeq (some [0, 3, 4, 5, 6]) (fun s K => Jn (Γ false) shp n2 j17_6 s K)
  (finK (Γ true) rc false (shp 17) (SFunc.results sf17) 0)))
noncomputable def q38_0 (Γ : Bool → SemL) (n1 : Nat) (n2 : Nat) (s0 : ByteArray) (x1 : Int) (x2 : Int) (s3 : ByteArray) (x4 : Int) (x5 : Int) (x6 : Int) : Option Out := Jn (Γ false) shp n1
  j38_0 (St.mk [(0, V.one (X.d (D.str s0))), (2, V.one (X.ptr 0 0)), (4, V.one (X.d (D.int IntKind.i64 x1)))] [(0, Blk.mk [Lf.int IntKind.i64, Lf.str, Lf.int IntKind.i64, Lf.int IntKind.i64,
  Lf.int IntKind.i64] [X.d (D.int IntKind.i64 x2), X.d (D.str s3), X.d (D.int IntKind.i64 x4), X.d (D.int IntKind.i64 x5), X.d (D.int IntKind.i64 x6)])] [] 1 0 0 []) (kLoop (loopK (Γ false)
  shp n1) [0, 2, 4] lb38_0 (kBlk 1 (kSeq (some [0, 2, 4]) (fun s K => Jn (Γ false) shp n2 j38_1 s K) (kBlk 0 (kSeq (some [0, 2]) (fun s K => Jn (Γ false) shp n2 j38_8 s K) (finK (Γ true) rc
  false (shp 38) (SFunc.results sf38) 0))))))
noncomputable def q38_1 (Γ : Bool → SemL) (n1 : Nat) (s0 : ByteArray) (x1 : Int) (x2 : Int) (s3 : ByteArray) (x4 : Int) (x5 : Int) (x6 : Int) : Option Out := Jn (Γ false) shp n1 j38_1 (St.mk
  [(0, V.one (X.d (D.str s0))), (2, V.one (X.ptr 0 0)), (4, V.one (X.d (D.int IntKind.i64 x1)))] [(0, Blk.mk [Lf.int IntKind.i64, Lf.str, Lf.int IntKind.i64, Lf.int IntKind.i64, Lf.int
  IntKind.i64] [X.d (D.int IntKind.i64 x2), X.d (D.str s3), X.d (D.int IntKind.i64 x4), X.d (D.int IntKind.i64 x5), X.d (D.int IntKind.i64 x6)])] [] 1 0 0 []) (kBlk 0 (kSeq (some [0, 2]) (fun
  s K => Jn (Γ false) shp n1 j38_8 s K) (finK (Γ true) rc false (shp 38) (SFunc.results sf38) 0)))
noncomputable def q38_4 (Γ : Bool → SemL) (n1 : Nat) (n2 : Nat) (s0 : ByteArray) (x1 : Int) (x2 : Int) (x3 : Int) (s4 : ByteArray) (x5 : Int) (x6 : Int) (x7 : Int) : Option Out := Jn (Γ
  false) shp n1 j38_4 (St.mk [(0, V.one (X.d (D.str s0))), (2, V.one (X.ptr 0 0)), (4, V.one (X.d (D.int IntKind.i64 x1))), (5, V.one (X.d (D.int IntKind.i64 x2)))] [(0, Blk.mk [Lf.int
  IntKind.i64, Lf.str, Lf.int IntKind.i64, Lf.int IntKind.i64, Lf.int IntKind.i64] [X.d (D.int IntKind.i64 x3), X.d (D.str s4), X.d (D.int IntKind.i64 x5), X.d (D.int IntKind.i64 x6), X.d
  (D.int IntKind.i64 x7)])] [] 1 0 0 []) (kLoop (loopK (Γ false) shp n1) [0, 2, 4, 5] lb38_1 (kBlk 3 (kSeq (some [0, 2, 4, 5]) (fun s K => Jn (Γ false) shp n2 j38_6 s K) (kBlk 0 (kSeq (some
  [0, 2]) (fun s K => Jn (Γ false) shp n2 j38_8 s K) (finK (Γ true) rc false (shp 38) (SFunc.results sf38) 0))))))
noncomputable def q38_6 (Γ : Bool → SemL) (n1 : Nat) (s0 : ByteArray) (x1 : Int) (x2 : Int) (x3 : Int) (s4 : ByteArray) (x5 : Int) (x6 : Int) (x7 : Int) : Option Out := Jn (Γ false) shp n1
  j38_6 (St.mk [(0, V.one (X.d (D.str s0))), (2, V.one (X.ptr 0 0)), (4, V.one (X.d (D.int IntKind.i64 x1))), (5, V.one (X.d (D.int IntKind.i64 x2)))] [(0, Blk.mk [Lf.int IntKind.i64, Lf.str,
  Lf.int IntKind.i64, Lf.int IntKind.i64, Lf.int IntKind.i64] [X.d (D.int IntKind.i64 x3), X.d (D.str s4), X.d (D.int IntKind.i64 x5), X.d (D.int IntKind.i64 x6), X.d (D.int IntKind.i64
  x7)])] [] 1 0 0 []) (kBlk 0 (kSeq (some [0, 2]) (fun s K => Jn (Γ false) shp n1 j38_8 s K) (finK (Γ true) rc false (shp 38) (SFunc.results sf38) 0)))
noncomputable def e73 (Γ : Bool → SemL) (n1 : Nat) (s0 : ByteArray) : Option Out := runF Γ shp rc false (shp 73) sf73 n1 [V.one (X.d (D.str s0))] []
noncomputable def q38_9 (Γ : Bool → SemL) (n1 : Nat) (s0 : ByteArray) (x1 : Int) (s2 : ByteArray) (x3 : Int) (x4 : Int) (x5 : Int) : Option Out := Jn (Γ false) shp n1 j38_9 (St.mk [(0, V.one
  (X.d (D.str s0))), (2, V.one (X.ptr 0 0))] [(0, Blk.mk [Lf.int IntKind.i64, Lf.str, Lf.int IntKind.i64, Lf.int IntKind.i64, Lf.int IntKind.i64] [X.d (D.int IntKind.i64 x1), X.d (D.str s2),
  X.d (D.int IntKind.i64 x3), X.d (D.int IntKind.i64 x4), X.d (D.int IntKind.i64 x5)])] [] 1 0 0 []) (finK (Γ true) rc false (shp 38) (SFunc.results sf38) 0)
noncomputable def q17_1_v1 (Γ : Bool → SemL) (n1 : Nat) (n2 : Nat) (s0 : ByteArray) (r1 : List (List D)) (x2 : Int) (x3 : Int) (x4 : Int) (x5 : Int) (s6 : ByteArray) (x7 : Int) (x8 : Int) :
  Option Out := Jn (Γ false) shp n1 j17_1 (St.mk [(0, V.one (X.d (D.str s0))), (3, V.one (X.ptr 0 0)), (4, V.one (X.own 0 50 5 r1)), (5, V.one (X.d (D.int IntKind.i64 x2))), (6, V.one (X.d
  (D.int IntKind.i64 x3))), (7, V.one (X.d (D.int IntKind.i64 x4)))] [(0, Blk.mk [Lf.int IntKind.i64, Lf.str, Lf.int IntKind.i64, Lf.int IntKind.i64] [X.d (D.int IntKind.i64 x5), X.d (D.str
  s6), X.d (D.int IntKind.i64 x7), X.d (D.int IntKind.i64 x8)])] [0] 1 1 0 []) (kLoop (loopK (Γ false) shp n1) [0, 3, 4, 5, 6, 7] lb17_0 (kBlk 0 (kSeq (some [0, 3, 4, 5, 6]) (fun s K => Jn (Γ
  false) shp n2 j17_6 s K) (finK (Γ true) rc false (shp 17) (SFunc.results sf17) 0))))
noncomputable def q17_6_v1 (Γ : Bool → SemL) (n1 : Nat) (s0 : ByteArray) (r1 : List (List D)) (x2 : Int) (x3 : Int) (x4 : Int) (s5 : ByteArray) (x6 : Int) (x7 : Int) : Option Out := Jn (Γ
  false) shp n1 j17_6 (St.mk [(0, V.one (X.d (D.str s0))), (3, V.one (X.ptr 0 0)), (4, V.one (X.own 0 50 5 r1)), (5, V.one (X.d (D.int IntKind.i64 x2))), (6, V.one (X.d (D.int IntKind.i64
  x3)))] [(0, Blk.mk [Lf.int IntKind.i64, Lf.str, Lf.int IntKind.i64, Lf.int IntKind.i64] [X.d (D.int IntKind.i64 x4), X.d (D.str s5), X.d (D.int IntKind.i64 x6), X.d (D.int IntKind.i64
  x7)])] [0] 1 1 0 []) (finK (Γ true) rc false (shp 17) (SFunc.results sf17) 0)
noncomputable def q38_2 (Γ : Bool → SemL) (n1 : Nat) (s0 : ByteArray) (x1 : Int) (x2 : Int) (s3 : ByteArray) (x4 : Int) (x5 : Int) (x6 : Int) : Option Out := Jn (Γ false) shp n1 j38_2 (St.mk
  [(0, V.one (X.d (D.str s0))), (2, V.one (X.ptr 0 0)), (4, V.one (X.d (D.int IntKind.i64 x1)))] [(0, Blk.mk [Lf.int IntKind.i64, Lf.str, Lf.int IntKind.i64, Lf.int IntKind.i64, Lf.int
  IntKind.i64] [X.d (D.int IntKind.i64 x2), X.d (D.str s3), X.d (D.int IntKind.i64 x4), X.d (D.int IntKind.i64 x5), X.d (D.int IntKind.i64 x6)])] [] 1 0 0 []) (kBlk 0 (kSeq (some [0, 2]) (fun
  s K => Jn (Γ false) shp n1 j38_8 s K) (finK (Γ true) rc false (shp 38) (SFunc.results sf38) 0)))
noncomputable def q38_5 (Γ : Bool → SemL) (n1 : Nat) (n2 : Nat) (s0 : ByteArray) (x1 : Int) (x2 : Int) (x3 : Int) (s4 : ByteArray) (x5 : Int) (x6 : Int) (x7 : Int) : Option Out := Jn (Γ
  false) shp n1 j38_5 (St.mk [(0, V.one (X.d (D.str s0))), (2, V.one (X.ptr 0 0)), (4, V.one (X.d (D.int IntKind.i64 x1))), (5, V.one (X.d (D.int IntKind.i64 x2)))] [(0, Blk.mk [Lf.int
  IntKind.i64, Lf.str, Lf.int IntKind.i64, Lf.int IntKind.i64, Lf.int IntKind.i64] [X.d (D.int IntKind.i64 x3), X.d (D.str s4), X.d (D.int IntKind.i64 x5), X.d (D.int IntKind.i64 x6), X.d
  (D.int IntKind.i64 x7)])] [] 1 0 0 []) (kLoop (loopK (Γ false) shp n1) [0, 2, 4, 5] lb38_1 (kBlk 3 (kSeq (some [0, 2, 4, 5]) (fun s K => Jn (Γ false) shp n2 j38_6 s K) (kBlk 0 (kSeq (some
  [0, 2]) (fun s K => Jn (Γ false) shp n2 j38_8 s K) (finK (Γ true) rc false (shp 38) (SFunc.results sf38) 0))))))
noncomputable def q38_7 (Γ : Bool → SemL) (n1 : Nat) (s0 : ByteArray) (x1 : Int) (x2 : Int) (x3 : Int) (s4 : ByteArray) (x5 : Int) (x6 : Int) (x7 : Int) : Option Out := Jn (Γ false) shp n1
  j38_7 (St.mk [(0, V.one (X.d (D.str s0))), (2, V.one (X.ptr 0 0)), (4, V.one (X.d (D.int IntKind.i64 x1))), (5, V.one (X.d (D.int IntKind.i64 x2)))] [(0, Blk.mk [Lf.int IntKind.i64, Lf.str,
  Lf.int IntKind.i64, Lf.int IntKind.i64, Lf.int IntKind.i64] [X.d (D.int IntKind.i64 x3), X.d (D.str s4), X.d (D.int IntKind.i64 x5), X.d (D.int IntKind.i64 x6), X.d (D.int IntKind.i64
  x7)])] [] 1 0 0 []) (kBlk 0 (kSeq (some [0, 2]) (fun s K => Jn (Γ false) shp n1 j38_8 s K) (finK (Γ true) rc false (shp 38) (SFunc.results sf38) 0)))
noncomputable def l73_0 (n0 : Nat) (Γ : Bool → SemL) (n2 : Nat) (s0 : ByteArray) (r1 : List (List D)) (x2 : Int) (x3 : Int) : Option Out := loopK (Γ false) shp n0 [0, 5, 6, 7] lb73_0 (St.mk
  [(0, V.one (X.d (D.str s0))), (5, V.one (X.own 0 9 1 r1)), (6, V.one (X.d (D.int IntKind.i64 x2))), (7, V.one (X.d (D.int IntKind.i64 x3)))] [] [0] 0 1 0 []) (kBlk 0 (kSeq (some [0]) (fun s
  K => Jn (Γ false) shp n2 j73_2 s K) (finK (Γ true) rc false (shp 73) (SFunc.results sf73) 0)))
noncomputable def l17_1_v1 (n0 : Nat) (Γ : Bool → SemL) (n2 : Nat) (n3 : Nat) (s0 : ByteArray) (r1 : List (List D)) (x2 : Int) (x3 : Int) (x4 : Int) (x5 : Int) (s6 : ByteArray) (x7 : Int) (x8
  : Int) : Option Out := loopK (Γ false) shp n0 [0, 3, 4, 5, 6, 7] lb17_1 (St.mk [(0, V.one (X.d (D.str s0))), (3, V.one (X.ptr 0 0)), (4, V.one (X.own 0 50 5 r1)), (5, V.one (X.d (D.int
  IntKind.i64 x2))), (6, V.one (X.d (D.int IntKind.i64 x3))), (7, V.one (X.d (D.int IntKind.i64 x4)))] [(0, Blk.mk [Lf.int IntKind.i64, Lf.str, Lf.int IntKind.i64, Lf.int IntKind.i64] [X.d
  (D.int IntKind.i64 x5), X.d (D.str s6), X.d (D.int IntKind.i64 x7), X.d (D.int IntKind.i64 x8)])] [0] 1 1 0 []) (kBlk 3 (kSeq (some [0, 3, 4, 5, 6, 7]) (fun s K => Jn (Γ false) shp n2 j17_3
  s K) (kBlk 2 (kSeq (some [0, 3, 4, 5, 6, 7]) (fun s K => Jn (Γ false) shp n2 j17_4 s K) (kBlk 1 (kLoop (loopK (Γ false) shp n2) [0, 3, 4, 5, 6, 7] lb17_0 (kBlk 0 (kSeq (some [0, 3, 4, 5,
  6]) (fun s K => Jn (Γ false) shp n3 j17_6 s K) (finK (Γ true) rc false (shp 17) (SFunc.results sf17) 0)))))))))
noncomputable def q17_4_v1 (Γ : Bool → SemL) (n1 : Nat) (n2 : Nat) (s0 : ByteArray) (r1 : List (List D)) (x2 : Int) (x3 : Int) (x4 : Int) (x5 : Int) (s6 : ByteArray) (x7 : Int) (x8 : Int) :
  Option Out := Jn (Γ false) shp n1 j17_4 (St.mk [(0, V.one (X.d (D.str s0))), (3, V.one (X.ptr 0 0)), (4, V.one (X.own 0 50 5 r1)), (5, V.one (X.d (D.int IntKind.i64 x2))), (6, V.one (X.d
  (D.int IntKind.i64 x3))), (7, V.one (X.d (D.int IntKind.i64 x4)))] [(0, Blk.mk [Lf.int IntKind.i64, Lf.str, Lf.int IntKind.i64, Lf.int IntKind.i64] [X.d (D.int IntKind.i64 x5), X.d (D.str
  s6), X.d (D.int IntKind.i64 x7), X.d (D.int IntKind.i64 x8)])] [0] 1 1 0 []) (kBlk 1 (kLoop (loopK (Γ false) shp n1) [0, 3, 4, 5, 6, 7] lb17_0 (kBlk 0 (kSeq (some [0, 3, 4, 5, 6]) (fun s K
  => Jn (Γ false) shp n2 j17_6 s K) (finK (Γ true) rc false (shp 17) (SFunc.results sf17) 0)))))
noncomputable def q38_3 (Γ : Bool → SemL) (n1 : Nat) (s0 : ByteArray) (x1 : Int) (x2 : Int) (s3 : ByteArray) (x4 : Int) (x5 : Int) (x6 : Int) : Option Out := Jn (Γ false) shp n1 j38_3 (St.mk
  [(0, V.one (X.d (D.str s0))), (2, V.one (X.ptr 0 0)), (4, V.one (X.d (D.int IntKind.i64 x1)))] [(0, Blk.mk [Lf.int IntKind.i64, Lf.str, Lf.int IntKind.i64, Lf.int IntKind.i64, Lf.int
  IntKind.i64] [X.d (D.int IntKind.i64 x2), X.d (D.str s3), X.d (D.int IntKind.i64 x4), X.d (D.int IntKind.i64 x5), X.d (D.int IntKind.i64 x6)])] [] 1 0 0 []) (kBlk 0 (kSeq (some [0, 2]) (fun
  s K => Jn (Γ false) shp n1 j38_8 s K) (finK (Γ true) rc false (shp 38) (SFunc.results sf38) 0)))
noncomputable def q73_0 (Γ : Bool → SemL) (n1 : Nat) (n2 : Nat) (s0 : ByteArray) (r1 : List (List D)) (x2 : Int) (x3 : Int) : Option Out := Jn (Γ false) shp n1 j73_0 (St.mk [(0, V.one (X.d
  (D.str s0))), (5, V.one (X.own 0 9 1 r1)), (6, V.one (X.d (D.int IntKind.i64 x2))), (7, V.one (X.d (D.int IntKind.i64 x3)))] [] [0] 0 1 0 []) (kLoop (loopK (Γ false) shp n1) [0, 5, 6, 7]
  lb73_0 (kBlk 0 (kSeq (some [0]) (fun s K => Jn (Γ false) shp n2 j73_2 s K) (finK (Γ true) rc false (shp 73) (SFunc.results sf73) 0))))
noncomputable def q73_2 (Γ : Bool → SemL) (n1 : Nat) (s0 : ByteArray) : Option Out := Jn (Γ false) shp n1 j73_2 (St.mk [(0, V.one (X.d (D.str s0)))] [] [] 0 0 0 []) (finK (Γ true) rc false
  (shp 73) (SFunc.results sf73) 0)
noncomputable def q17_2_v1 (Γ : Bool → SemL) (n1 : Nat) (n2 : Nat) (n3 : Nat) (s0 : ByteArray) (r1 : List (List D)) (x2 : Int) (x3 : Int) (x4 : Int) (x5 : Int) (s6 : ByteArray) (x7 : Int) (x8
  : Int) : Option Out := Jn (Γ false) shp n1 j17_2 (St.mk [(0, V.one (X.d (D.str s0))), (3, V.one (X.ptr 0 0)), (4, V.one (X.own 0 50 5 r1)), (5, V.one (X.d (D.int IntKind.i64 x2))), (6,
  V.one (X.d (D.int IntKind.i64 x3))), (7, V.one (X.d (D.int IntKind.i64 x4)))] [(0, Blk.mk [Lf.int IntKind.i64, Lf.str, Lf.int IntKind.i64, Lf.int IntKind.i64] [X.d (D.int IntKind.i64 x5),
  X.d (D.str s6), X.d (D.int IntKind.i64 x7), X.d (D.int IntKind.i64 x8)])] [0] 1 1 0 []) (kLoop (loopK (Γ false) shp n1) [0, 3, 4, 5, 6, 7] lb17_1 (kBlk 3 (kSeq (some [0, 3, 4, 5, 6, 7])
  (fun s K => Jn (Γ false) shp n2 j17_3 s K) (kBlk 2 (kSeq (some [0, 3, 4, 5, 6, 7]) (fun s K => Jn (Γ false) shp n2 j17_4 s K) (kBlk 1 (kLoop (loopK (Γ false) shp n2) [0, 3, 4, 5, 6, 7]
  lb17_0 (kBlk 0 (kSeq (some [0, 3, 4, 5, 6]) (fun s K => Jn (Γ false) shp n3 j17_6 s K) (finK (Γ true) rc false (shp 17) (SFunc.results sf17) 0))))))))))
noncomputable def q17_3_v1 (Γ : Bool → SemL) (n1 : Nat) (n2 : Nat) (s0 : ByteArray) (r1 : List (List D)) (x2 : Int) (x3 : Int) (x4 : Int) (x5 : Int) (s6 : ByteArray) (x7 : Int) (x8 : Int) :
  Option Out := Jn (Γ false) shp n1 j17_3 (St.mk [(0, V.one (X.d (D.str s0))), (3, V.one (X.ptr 0 0)), (4, V.one (X.own 0 50 5 r1)), (5, V.one (X.d (D.int IntKind.i64 x2))), (6, V.one (X.d
  (D.int IntKind.i64 x3))), (7, V.one (X.d (D.int IntKind.i64 x4)))] [(0, Blk.mk [Lf.int IntKind.i64, Lf.str, Lf.int IntKind.i64, Lf.int IntKind.i64] [X.d (D.int IntKind.i64 x5), X.d (D.str
  s6), X.d (D.int IntKind.i64 x7), X.d (D.int IntKind.i64 x8)])] [0] 1 1 0 []) (kBlk 2 (kSeq (some [0, 3, 4, 5, 6, 7]) (fun s K => Jn (Γ false) shp n1 j17_4 s K) (kBlk 1 (kLoop (loopK (Γ
  false) shp n1) [0, 3, 4, 5, 6, 7] lb17_0 (kBlk 0 (kSeq (some [0, 3, 4, 5, 6]) (fun s K => Jn (Γ false) shp n2 j17_6 s K) (finK (Γ true) rc false (shp 17) (SFunc.results sf17) 0)))))))
noncomputable def q17_5_v1 (Γ : Bool → SemL) (n1 : Nat) (n2 : Nat) (s0 : ByteArray) (r1 : List (List D)) (x2 : Int) (x3 : Int) (x4 : Int) (x5 : Int) (s6 : ByteArray) (x7 : Int) (x8 : Int) (x9
  : Int) (s10 : ByteArray) (x11 : Int) (x12 : Int) (x13 : Int) : Option Out := Jn (Γ false) shp n1 j17_5 (St.mk [(0, V.one (X.d (D.str s0))), (3, V.one (X.ptr 0 0)), (4, V.one (X.own 0 50 5
  r1)), (5, V.one (X.d (D.int IntKind.i64 x2))), (6, V.one (X.d (D.int IntKind.i64 x3))), (7, V.one (X.d (D.int IntKind.i64 x4))), (9, V.one (X.ptr 1 0))] [(0, Blk.mk [Lf.int IntKind.i64,
  Lf.str, Lf.int IntKind.i64, Lf.int IntKind.i64] [X.d (D.int IntKind.i64 x5), X.d (D.str s6), X.d (D.int IntKind.i64 x7), X.d (D.int IntKind.i64 x8)]), (1, Blk.mk [Lf.int IntKind.i64,
  Lf.str, Lf.int IntKind.i64, Lf.int IntKind.i64, Lf.int IntKind.i64] [X.d (D.int IntKind.i64 x9), X.d (D.str s10), X.d (D.int IntKind.i64 x11), X.d (D.int IntKind.i64 x12), X.d (D.int
  IntKind.i64 x13)])] [0] 2 1 0 []) (kBlk 1 (kLoop (loopK (Γ false) shp n1) [0, 3, 4, 5, 6, 7] lb17_0 (kBlk 0 (kSeq (some [0, 3, 4, 5, 6]) (fun s K => Jn (Γ false) shp n2 j17_6 s K) (finK (Γ
  true) rc false (shp 17) (SFunc.results sf17) 0)))))
noncomputable def e100 (Γ : Bool → SemL) (n1 : Nat) (s0 : ByteArray) (s1 : ByteArray) : Option Out := runF Γ shp rc false (shp 100) sf100 n1 [V.one (X.d (D.str s0)), V.one (X.d (D.str s1))]
  []
noncomputable def q73_1 (Γ : Bool → SemL) (n1 : Nat) (n2 : Nat) (s0 : ByteArray) (r1 : List (List D)) (x2 : Int) (x3 : Int) : Option Out := Jn (Γ false) shp n1 j73_1 (St.mk [(0, V.one (X.d
  (D.str s0))), (5, V.one (X.own 0 9 1 r1)), (6, V.one (X.d (D.int IntKind.i64 x2))), (7, V.one (X.d (D.int IntKind.i64 x3)))] [] [0] 0 1 0 []) (kLoop (loopK (Γ false) shp n1) [0, 5, 6, 7]
  lb73_0 (kBlk 0 (kSeq (some [0]) (fun s K => Jn (Γ false) shp n2 j73_2 s K) (finK (Γ true) rc false (shp 73) (SFunc.results sf73) 0))))
noncomputable def q73_3 (Γ : Bool → SemL) (n1 : Nat) : Option Out := Jn (Γ false) shp n1 j73_3 (St.mk [] [] [] 0 0 0 []) (finK (Γ true) rc false (shp 73) (SFunc.results sf73) 0)
noncomputable def e112 (Γ : Bool → SemL) (n1 : Nat) (s0 : ByteArray) (s1 : ByteArray) : Option Out := runF Γ shp rc false (shp 112) sf112 n1 [V.one (X.d (D.str s0)), V.one (X.d (D.str s1))]
  []
theorem e17_eq (Γ : Bool → SemL) (n1 : Nat) (s0 : ByteArray) : e17 Γ n1 s0 = bif decide (Int.ofNat (ByteArray.size s0) > 20000) then some (Out.mk true (V.tup [V.one (X.d (D.list 5 [])), V.agg
  [X.d (D.int IntKind.i64 2), X.d (D.str (ByteArray.mk #[])), X.d (D.int IntKind.i64 0), X.d (D.int IntKind.i64 0)]]) D.junk [] 0) else q17_0 Γ n1 s0 0 (ByteArray.mk #[]) 0 0 := (run_step
  ..).trans (by kernel_rfl)
theorem q17_0_eq (Γ : Bool → SemL) (n1 : Nat) (s0 : ByteArray) (x1 : Int) (s2 : ByteArray) (x3 : Int) (x4 : Int) : q17_0 Γ n1 s0 x1 s2 x3 x4 = l17_0 n1 Γ n1 s0 1 0 0 x1 s2 x3 x4 := (Jn_step
  ..).trans (by kernel_rfl)
theorem l17_0_eq (n0 : Nat) (Γ : Bool → SemL) (n2 : Nat) (s0 : ByteArray) (x1 : Int) (x2 : Int) (x3 : Int) (x4 : Int) (s5 : ByteArray) (x6 : Int) (x7 : Int) : l17_0 (n0 + 1) Γ n2 s0 x1 x2 x3
  x4 s5 x6 x7 = bif decide (x3 < Int.ofNat (ByteArray.size s0)) then q17_1 Γ n0 n2 s0 x1 x2 x3 x4 s5 x6 x7 else q17_6 Γ n2 s0 x1 x2 x4 s5 x6 x7 := (loop_step ..).trans (by kernel_rfl)
theorem q17_1_eq (Γ : Bool → SemL) (n1 : Nat) (n2 : Nat) (s0 : ByteArray) (x1 : Int) (x2 : Int) (x3 : Int) (x4 : Int) (s5 : ByteArray) (x6 : Int) (x7 : Int) : q17_1 Γ n1 n2 s0 x1 x2 x3 x4 s5
  x6 x7 = bif decide (0 ≤ x3) && decide (x3 < Int.ofNat (ByteArray.size s0)) then bif Int.ofNat (UInt8.toNat (ByteArray.get! s0 (Int.toNat x3))) == 10 then l17_0 n1 Γ n2 s0 (IntKind.wrap
  IntKind.i64 (x1 + 1)) (IntKind.wrap IntKind.i64 (x3 + 1)) (IntKind.wrap IntKind.i64 (x3 + 1)) x4 s5 x6 x7 else bif Int.ofNat (UInt8.toNat (ByteArray.get! s0 (Int.toNat x3))) == 32 then
  l17_0 n1 Γ n2 s0 x1 x2 (IntKind.wrap IntKind.i64 (x3 + 1)) x4 s5 x6 x7 else bif Int.ofNat (UInt8.toNat (ByteArray.get! s0 (Int.toNat x3))) == 9 then l17_0 n1 Γ n2 s0 x1 x2 (IntKind.wrap
  IntKind.i64 (x3 + 1)) x4 s5 x6 x7 else bif Int.ofNat (UInt8.toNat (ByteArray.get! s0 (Int.toNat x3))) == 13 then l17_0 n1 Γ n2 s0 x1 x2 (IntKind.wrap IntKind.i64 (x3 + 1)) x4 s5 x6 x7 else
  bif Int.ofNat (UInt8.toNat (ByteArray.get! s0 (Int.toNat x3))) == 35 then l17_1 n1 Γ n1 n2 s0 x1 x2 x3 x4 s5 x6 x7 else q17_4 Γ n1 n2 s0 x1 x2 x3 x4 s5 x6 x7 else none := (Jn_step ..).trans
  (by kernel_rfl)
theorem q17_6_eq (Γ : Bool → SemL) (n1 : Nat) (s0 : ByteArray) (x1 : Int) (x2 : Int) (x3 : Int) (s4 : ByteArray) (x5 : Int) (x6 : Int) : q17_6 Γ n1 s0 x1 x2 x3 s4 x5 x6 = some (Out.mk true
  (V.tup [V.one (X.d (D.list 5 [[D.int IntKind.i64 5, D.str (ByteArray.mk #[]), D.int IntKind.i64 0, D.int IntKind.i64 x1, D.int IntKind.i64 (IntKind.wrap IntKind.i64 (IntKind.wrap
  IntKind.i64 (Int.ofNat (ByteArray.size s0) - x2) + 1))]])), V.agg [X.d (D.int IntKind.i64 0), X.d (D.str (ByteArray.mk #[])), X.d (D.int IntKind.i64 0), X.d (D.int IntKind.i64 0)]]) D.junk
  [] 0) := (Jn_step ..).trans (by kernel_rfl)
theorem l17_1_eq (n0 : Nat) (Γ : Bool → SemL) (n2 : Nat) (n3 : Nat) (s0 : ByteArray) (x1 : Int) (x2 : Int) (x3 : Int) (x4 : Int) (s5 : ByteArray) (x6 : Int) (x7 : Int) : l17_1 (n0 + 1) Γ n2
  n3 s0 x1 x2 x3 x4 s5 x6 x7 = bif decide (x3 < Int.ofNat (ByteArray.size s0)) then bif decide (0 ≤ x3) && decide (x3 < Int.ofNat (ByteArray.size s0)) then bif Int.ofNat (UInt8.toNat
  (ByteArray.get! s0 (Int.toNat x3))) != 10 then q17_2 Γ n0 n2 n3 s0 x1 x2 x3 x4 s5 x6 x7 else q17_3 Γ n2 n3 s0 x1 x2 x3 x4 s5 x6 x7 else none else q17_3 Γ n2 n3 s0 x1 x2 x3 x4 s5 x6 x7 :=
  (loop_step ..).trans (by kernel_rfl)
theorem q17_4_eq (Γ : Bool → SemL) (n1 : Nat) (n2 : Nat) (s0 : ByteArray) (x1 : Int) (x2 : Int) (x3 : Int) (x4 : Int) (s5 : ByteArray) (x6 : Int) (x7 : Int) : q17_4 Γ n1 n2 s0 x1 x2 x3 x4 s5
  x6 x7 = bif decide (0 ≤ Int.ofNat (ByteArray.size s0)) && decide (Int.ofNat (ByteArray.size s0) ≤ Int.ofNat (ByteArray.size s0)) && decide (0 ≤ x3) && decide (x3 ≤ Int.ofNat (ByteArray.size
  s0)) then r_t2a5ISIIIoI (Γ false 38 [V.one (X.d (D.str (ByteArray.extract s0 (Int.toNat x3) (Int.toNat (Int.ofNat (ByteArray.size s0))))))] []) (fun i0_ u1_ i2_ i3_ i4_ i5_ => bif i5_ != 0
  then some (Out.mk true (V.tup [V.one (X.d (D.list 5 [])), V.agg [X.d (D.int IntKind.i64 i5_), X.d (D.str u1_), X.d (D.int IntKind.i64 x1), X.d (D.int IntKind.i64 (IntKind.wrap IntKind.i64
  (IntKind.wrap IntKind.i64 (x3 - x2) + 1)))]]) D.junk [] 0) else q17_5 Γ n1 n2 s0 x1 x2 x3 x4 s5 x6 x7 i0_ u1_ i2_ x1 (IntKind.wrap IntKind.i64 (IntKind.wrap IntKind.i64 (x3 - x2) + 1))) fun
  d6_ => some (Out.mk false V.junk d6_ [] 0) else none := (Jn_step ..).trans (by kernel_rfl)
theorem q17_2_eq (Γ : Bool → SemL) (n1 : Nat) (n2 : Nat) (n3 : Nat) (s0 : ByteArray) (x1 : Int) (x2 : Int) (x3 : Int) (x4 : Int) (s5 : ByteArray) (x6 : Int) (x7 : Int) : q17_2 Γ n1 n2 n3 s0
  x1 x2 x3 x4 s5 x6 x7 = l17_1 n1 Γ n2 n3 s0 x1 x2 (IntKind.wrap IntKind.i64 (x3 + 1)) x4 s5 x6 x7 := (Jn_step ..).trans (by kernel_rfl)
theorem q17_3_eq (Γ : Bool → SemL) (n1 : Nat) (n2 : Nat) (s0 : ByteArray) (x1 : Int) (x2 : Int) (x3 : Int) (x4 : Int) (s5 : ByteArray) (x6 : Int) (x7 : Int) : q17_3 Γ n1 n2 s0 x1 x2 x3 x4 s5
  x6 x7 = l17_0 n1 Γ n2 s0 x1 x2 x3 x4 s5 x6 x7 := (Jn_step ..).trans (by kernel_rfl)
theorem e38_eq (Γ : Bool → SemL) (n1 : Nat) (s0 : ByteArray) : e38 Γ n1 s0 = bif true && decide (0 < Int.ofNat (ByteArray.size s0)) then r_oB (Γ false 70 [V.one (X.d (D.int IntKind.u8
  (Int.ofNat (UInt8.toNat (ByteArray.get! s0 0)))))] []) (fun c0_ => bif c0_ then l38_0 n1 Γ n1 s0 0 0 (ByteArray.mk #[]) 0 0 0 else bif true && decide (0 < Int.ofNat (ByteArray.size s0))
  then r_oB (Γ false 71 [V.one (X.d (D.int IntKind.u8 (Int.ofNat (UInt8.toNat (ByteArray.get! s0 0)))))] []) (fun c2_ => bif c2_ then l38_1 n1 Γ n1 s0 0 0 0 (ByteArray.mk #[]) 0 0 0 else
  q38_8 Γ n1 s0 0 (ByteArray.mk #[]) 0 0 0) fun d3_ => some (Out.mk false V.junk d3_ [] 0) else none) fun d1_ => some (Out.mk false V.junk d1_ [] 0) else none := (run_step ..).trans (by
  kernel_rfl)
theorem q17_5_eq (Γ : Bool → SemL) (n1 : Nat) (n2 : Nat) (s0 : ByteArray) (x1 : Int) (x2 : Int) (x3 : Int) (x4 : Int) (s5 : ByteArray) (x6 : Int) (x7 : Int) (x8 : Int) (s9 : ByteArray) (x10 :
  Int) (x11 : Int) (x12 : Int) : q17_5 Γ n1 n2 s0 x1 x2 x3 x4 s5 x6 x7 x8 s9 x10 x11 x12 = l17_0_v1 n1 Γ n2 s0 [[D.int IntKind.i64 x8, D.str s9, D.int IntKind.i64 x10, D.int IntKind.i64 x11,
  D.int IntKind.i64 x12]] x1 x2 (IntKind.wrap IntKind.i64 (x3 + Int.ofNat (ByteArray.size s9))) x4 s5 x6 x7 := (Jn_step ..).trans (by kernel_rfl)
theorem e70_eq (Γ : Bool → SemL) (n1 : Nat) (x0 : Int) : e70 Γ n1 x0 = bif decide (x0 ≥ 97) then some (Out.mk true (V.one (X.d (D.bool (decide (x0 ≤ 122))))) D.junk [] 0) else some (Out.mk
  true (V.one (X.d (D.bool false))) D.junk [] 0) := (run_step ..).trans (by kernel_rfl)
theorem l38_0_eq (n0 : Nat) (Γ : Bool → SemL) (n2 : Nat) (s0 : ByteArray) (x1 : Int) (x2 : Int) (s3 : ByteArray) (x4 : Int) (x5 : Int) (x6 : Int) : l38_0 (n0 + 1) Γ n2 s0 x1 x2 s3 x4 x5 x6 =
  bif decide (x1 < Int.ofNat (ByteArray.size s0)) then bif decide (0 ≤ x1) && decide (x1 < Int.ofNat (ByteArray.size s0)) then r_oB (Γ false 70 [V.one (X.d (D.int IntKind.u8 (Int.ofNat
  (UInt8.toNat (ByteArray.get! s0 (Int.toNat x1))))))] []) (fun c0_ => bif c0_ then q38_0 Γ n0 n2 s0 x1 x2 s3 x4 x5 x6 else bif decide (0 ≤ x1) && decide (x1 < Int.ofNat (ByteArray.size s0))
  then r_oB (Γ false 71 [V.one (X.d (D.int IntKind.u8 (Int.ofNat (UInt8.toNat (ByteArray.get! s0 (Int.toNat x1))))))] []) (fun c2_ => bif c2_ then q38_0 Γ n0 n2 s0 x1 x2 s3 x4 x5 x6 else bif
  decide (0 ≤ x1) && decide (x1 < Int.ofNat (ByteArray.size s0)) then bif Int.ofNat (UInt8.toNat (ByteArray.get! s0 (Int.toNat x1))) == 95 then q38_0 Γ n0 n2 s0 x1 x2 s3 x4 x5 x6 else q38_1 Γ
  n2 s0 x1 x2 s3 x4 x5 x6 else none) fun d3_ => some (Out.mk false V.junk d3_ [] 0) else none) fun d1_ => some (Out.mk false V.junk d1_ [] 0) else none else q38_1 Γ n2 s0 x1 x2 s3 x4 x5 x6 :=
  (loop_step ..).trans (by kernel_rfl)
theorem e71_eq (Γ : Bool → SemL) (n1 : Nat) (x0 : Int) : e71 Γ n1 x0 = bif decide (x0 ≥ 48) then some (Out.mk true (V.one (X.d (D.bool (decide (x0 ≤ 57))))) D.junk [] 0) else some (Out.mk
  true (V.one (X.d (D.bool false))) D.junk [] 0) := (run_step ..).trans (by kernel_rfl)
theorem l38_1_eq (n0 : Nat) (Γ : Bool → SemL) (n2 : Nat) (s0 : ByteArray) (x1 : Int) (x2 : Int) (x3 : Int) (s4 : ByteArray) (x5 : Int) (x6 : Int) (x7 : Int) : l38_1 (n0 + 1) Γ n2 s0 x1 x2 x3
  s4 x5 x6 x7 = bif decide (x1 < Int.ofNat (ByteArray.size s0)) then bif decide (0 ≤ x1) && decide (x1 < Int.ofNat (ByteArray.size s0)) then r_oB (Γ false 71 [V.one (X.d (D.int IntKind.u8
  (Int.ofNat (UInt8.toNat (ByteArray.get! s0 (Int.toNat x1))))))] []) (fun c0_ => bif c0_ then q38_4 Γ n0 n2 s0 x1 x2 x3 s4 x5 x6 x7 else q38_6 Γ n2 s0 x1 x2 x3 s4 x5 x6 x7) fun d1_ => some
  (Out.mk false V.junk d1_ [] 0) else none else q38_6 Γ n2 s0 x1 x2 x3 s4 x5 x6 x7 := (loop_step ..).trans (by kernel_rfl)
theorem q38_8_eq (Γ : Bool → SemL) (n1 : Nat) (s0 : ByteArray) (x1 : Int) (s2 : ByteArray) (x3 : Int) (x4 : Int) (x5 : Int) : q38_8 Γ n1 s0 x1 s2 x3 x4 x5 = r_oS (Γ false 73 [V.one (X.d
  (D.str s0))] []) (fun u0_ => bif !beqL (Array.toList (ByteArray.data u0_)) (Array.toList (ByteArray.data (ByteArray.mk #[]))) then some (Out.mk true (V.tup [V.agg [X.d (D.int IntKind.i64
  4), X.d (D.str u0_), X.d (D.int IntKind.i64 0), X.d (D.int IntKind.i64 0), X.d (D.int IntKind.i64 0)], V.one (X.d (D.int IntKind.i64 0))]) D.junk [] 0) else q38_9 Γ n1 s0 x1 s2 x3 x4 x5)
  fun d1_ => some (Out.mk false V.junk d1_ [] 0) := (Jn_step ..).trans (by kernel_rfl)
theorem l17_0_v1_eq (n0 : Nat) (Γ : Bool → SemL) (n2 : Nat) (s0 : ByteArray) (r1 : List (List D)) (x2 : Int) (x3 : Int) (x4 : Int) (x5 : Int) (s6 : ByteArray) (x7 : Int) (x8 : Int) : l17_0_v1
  (n0 + 1) Γ n2 s0 r1 x2 x3 x4 x5 s6 x7 x8 = bif decide (x4 < Int.ofNat (ByteArray.size s0)) then q17_1_v1 Γ n0 n2 s0 r1 x2 x3 x4 x5 s6 x7 x8 else q17_6_v1 Γ n2 s0 r1 x2 x3 x5 s6 x7 x8 :=
  (loop_step ..).trans (by kernel_rfl)
theorem q38_0_eq (Γ : Bool → SemL) (n1 : Nat) (n2 : Nat) (s0 : ByteArray) (x1 : Int) (x2 : Int) (s3 : ByteArray) (x4 : Int) (x5 : Int) (x6 : Int) : q38_0 Γ n1 n2 s0 x1 x2 s3 x4 x5 x6 = l38_0
  n1 Γ n2 s0 (IntKind.wrap IntKind.i64 (x1 + 1)) x2 s3 x4 x5 x6 := (Jn_step ..).trans (by kernel_rfl)
theorem q38_1_eq (Γ : Bool → SemL) (n1 : Nat) (s0 : ByteArray) (x1 : Int) (x2 : Int) (s3 : ByteArray) (x4 : Int) (x5 : Int) (x6 : Int) : q38_1 Γ n1 s0 x1 x2 s3 x4 x5 x6 = bif decide (x1 > 24)
  then bif decide (0 ≤ x1) && decide (x1 ≤ Int.ofNat (ByteArray.size s0)) && true && decide (0 ≤ x1) then some (Out.mk true (V.tup [V.agg [X.d (D.int IntKind.i64 0), X.d (D.str
  (ByteArray.extract s0 0 (Int.toNat x1))), X.d (D.int IntKind.i64 0), X.d (D.int IntKind.i64 0), X.d (D.int IntKind.i64 0)], V.one (X.d (D.int IntKind.i64 2))]) D.junk [] 0) else none else
  q38_2 Γ n1 s0 x1 x2 s3 x4 x5 x6 := (Jn_step ..).trans (by kernel_rfl)
theorem q38_4_eq (Γ : Bool → SemL) (n1 : Nat) (n2 : Nat) (s0 : ByteArray) (x1 : Int) (x2 : Int) (x3 : Int) (s4 : ByteArray) (x5 : Int) (x6 : Int) (x7 : Int) : q38_4 Γ n1 n2 s0 x1 x2 x3 s4 x5
  x6 x7 = bif decide (0 ≤ x1) && decide (x1 < Int.ofNat (ByteArray.size s0)) then q38_5 Γ n1 n2 s0 x1 (if 2147483648 < IntKind.wrap IntKind.i64 (IntKind.wrap IntKind.i64 (x2 * 10) +
  IntKind.wrap IntKind.i64 (IntKind.wrap IntKind.u8 (Int.ofNat (UInt8.toNat (ByteArray.get! s0 (Int.toNat x1))) - 48))) then 2147483648 else IntKind.wrap IntKind.i64 (IntKind.wrap IntKind.i64
  (x2 * 10) + IntKind.wrap IntKind.i64 (IntKind.wrap IntKind.u8 (Int.ofNat (UInt8.toNat (ByteArray.get! s0 (Int.toNat x1))) - 48)))) x3 s4 x5 x6 x7 else none := (Jn_step ..).trans (by
  kernel_rfl)
theorem q38_6_eq (Γ : Bool → SemL) (n1 : Nat) (s0 : ByteArray) (x1 : Int) (x2 : Int) (x3 : Int) (s4 : ByteArray) (x5 : Int) (x6 : Int) (x7 : Int) : q38_6 Γ n1 s0 x1 x2 x3 s4 x5 x6 x7 = bif
  decide (x2 > 2147483647) then bif decide (0 ≤ x1) && decide (x1 ≤ Int.ofNat (ByteArray.size s0)) && true && decide (0 ≤ x1) then some (Out.mk true (V.tup [V.agg [X.d (D.int IntKind.i64 0),
  X.d (D.str (ByteArray.extract s0 0 (Int.toNat x1))), X.d (D.int IntKind.i64 0), X.d (D.int IntKind.i64 0), X.d (D.int IntKind.i64 0)], V.one (X.d (D.int IntKind.i64 2))]) D.junk [] 0) else
  none else q38_7 Γ n1 s0 x1 x2 x3 s4 x5 x6 x7 := (Jn_step ..).trans (by kernel_rfl)
theorem e73_eq (Γ : Bool → SemL) (n1 : Nat) (s0 : ByteArray) : e73 Γ n1 s0 = l73_0 n1 Γ n1 s0 [[D.str (ByteArray.mk #[61, 61])], [D.str (ByteArray.mk #[61, 62])], [D.str (ByteArray.mk #[60,
  61])], [D.str (ByteArray.mk #[58, 58])]] 4 0 := (run_step ..).trans (by kernel_rfl)
theorem q38_9_eq (Γ : Bool → SemL) (n1 : Nat) (s0 : ByteArray) (x1 : Int) (s2 : ByteArray) (x3 : Int) (x4 : Int) (x5 : Int) : q38_9 Γ n1 s0 x1 s2 x3 x4 x5 = bif true && decide (1 ≤ Int.ofNat
  (ByteArray.size s0)) && true && true then some (Out.mk true (V.tup [V.agg [X.d (D.int IntKind.i64 0), X.d (D.str (ByteArray.extract s0 0 1)), X.d (D.int IntKind.i64 0), X.d (D.int
  IntKind.i64 0), X.d (D.int IntKind.i64 0)], V.one (X.d (D.int IntKind.i64 10))]) D.junk [] 0) else none := (Jn_step ..).trans (by kernel_rfl)
theorem q17_1_v1_eq (Γ : Bool → SemL) (n1 : Nat) (n2 : Nat) (s0 : ByteArray) (r1 : List (List D)) (x2 : Int) (x3 : Int) (x4 : Int) (x5 : Int) (s6 : ByteArray) (x7 : Int) (x8 : Int) : q17_1_v1
  Γ n1 n2 s0 r1 x2 x3 x4 x5 s6 x7 x8 = bif decide (0 ≤ x4) && decide (x4 < Int.ofNat (ByteArray.size s0)) then bif Int.ofNat (UInt8.toNat (ByteArray.get! s0 (Int.toNat x4))) == 10 then
  l17_0_v1 n1 Γ n2 s0 r1 (IntKind.wrap IntKind.i64 (x2 + 1)) (IntKind.wrap IntKind.i64 (x4 + 1)) (IntKind.wrap IntKind.i64 (x4 + 1)) x5 s6 x7 x8 else bif Int.ofNat (UInt8.toNat
  (ByteArray.get! s0 (Int.toNat x4))) == 32 then l17_0_v1 n1 Γ n2 s0 r1 x2 x3 (IntKind.wrap IntKind.i64 (x4 + 1)) x5 s6 x7 x8 else bif Int.ofNat (UInt8.toNat (ByteArray.get! s0 (Int.toNat
  x4))) == 9 then l17_0_v1 n1 Γ n2 s0 r1 x2 x3 (IntKind.wrap IntKind.i64 (x4 + 1)) x5 s6 x7 x8 else bif Int.ofNat (UInt8.toNat (ByteArray.get! s0 (Int.toNat x4))) == 13 then l17_0_v1 n1 Γ n2
  s0 r1 x2 x3 (IntKind.wrap IntKind.i64 (x4 + 1)) x5 s6 x7 x8 else bif Int.ofNat (UInt8.toNat (ByteArray.get! s0 (Int.toNat x4))) == 35 then l17_1_v1 n1 Γ n1 n2 s0 r1 x2 x3 x4 x5 s6 x7 x8
  else q17_4_v1 Γ n1 n2 s0 r1 x2 x3 x4 x5 s6 x7 x8 else none := (Jn_step ..).trans (by kernel_rfl)
theorem q17_6_v1_eq (Γ : Bool → SemL) (n1 : Nat) (s0 : ByteArray) (r1 : List (List D)) (x2 : Int) (x3 : Int) (x4 : Int) (s5 : ByteArray) (x6 : Int) (x7 : Int) : q17_6_v1 Γ n1 s0 r1 x2 x3 x4
  s5 x6 x7 = bif true && true && true && Nat.ble ((List.length r1 + List.length [[D.int IntKind.i64 5, D.str (ByteArray.mk #[]), D.int IntKind.i64 0, D.int IntKind.i64 x2, D.int IntKind.i64
  (IntKind.wrap IntKind.i64 (IntKind.wrap IntKind.i64 (Int.ofNat (ByteArray.size s0) - x3) + 1))]]) * 49) 140737488355328 then some (Out.mk true (V.tup [V.one (X.d (D.list 5 (r1 ++ [[D.int
  IntKind.i64 5, D.str (ByteArray.mk #[]), D.int IntKind.i64 0, D.int IntKind.i64 x2, D.int IntKind.i64 (IntKind.wrap IntKind.i64 (IntKind.wrap IntKind.i64 (Int.ofNat (ByteArray.size s0) -
  x3) + 1))]]))), V.agg [X.d (D.int IntKind.i64 0), X.d (D.str (ByteArray.mk #[])), X.d (D.int IntKind.i64 0), X.d (D.int IntKind.i64 0)]]) D.junk [] 0) else none := (Jn_step ..).trans (by
  kernel_rfl)
theorem q38_2_eq (Γ : Bool → SemL) (n1 : Nat) (s0 : ByteArray) (x1 : Int) (x2 : Int) (s3 : ByteArray) (x4 : Int) (x5 : Int) (x6 : Int) : q38_2 Γ n1 s0 x1 x2 s3 x4 x5 x6 = bif decide (0 ≤ x1)
  && decide (x1 ≤ Int.ofNat (ByteArray.size s0)) && true && decide (0 ≤ x1) then bif Nat.ble (1 + ByteArray.size (ByteArray.extract s0 0 (Int.toNat x1))) 9223372036854775807 then bif Nat.ble
  (ByteArray.size (ByteArray.mk #[32] ++ ByteArray.extract s0 0 (Int.toNat x1)) + 1) 9223372036854775807 then r_oB (Γ false 72 [V.one (X.d (D.str (ByteArray.mk #[32, 97, 110, 100, 32, 98,
  111, 111, 108, 32, 99, 97, 115, 101, 32, 101, 108, 115, 101, 32, 102, 97, 108, 115, 101, 32, 102, 108, 105, 112, 32, 102, 117, 110, 32, 105, 102, 32, 105, 110, 32, 105, 110, 112, 117, 116,
  32, 105, 110, 116, 32, 108, 101, 116, 32, 110, 111, 116, 32, 111, 98, 115, 101, 114, 118, 101, 32, 111, 102, 32, 111, 114, 32, 112, 105, 99, 107, 32, 114, 97, 110, 103, 101, 32, 115, 99,
  111, 114, 101, 32, 116, 104, 101, 110, 32, 116, 114, 117, 101, 32]))), V.one (X.d (D.str (ByteArray.mk #[32] ++ ByteArray.extract s0 0 (Int.toNat x1) ++ ByteArray.mk #[32])))] []) (fun c0_
  => bif c0_ then bif decide (0 ≤ x1) && decide (x1 ≤ Int.ofNat (ByteArray.size s0)) && true && decide (0 ≤ x1) then some (Out.mk true (V.tup [V.agg [X.d (D.int IntKind.i64 2), X.d (D.str
  (ByteArray.extract s0 0 (Int.toNat x1))), X.d (D.int IntKind.i64 0), X.d (D.int IntKind.i64 0), X.d (D.int IntKind.i64 0)], V.one (X.d (D.int IntKind.i64 0))]) D.junk [] 0) else none else
  q38_3 Γ n1 s0 x1 x2 s3 x4 x5 x6) fun d1_ => some (Out.mk false V.junk d1_ [] 0) else none else none else none := (Jn_step ..).trans (by kernel_rfl)
theorem q38_5_eq (Γ : Bool → SemL) (n1 : Nat) (n2 : Nat) (s0 : ByteArray) (x1 : Int) (x2 : Int) (x3 : Int) (s4 : ByteArray) (x5 : Int) (x6 : Int) (x7 : Int) : q38_5 Γ n1 n2 s0 x1 x2 x3 s4 x5
  x6 x7 = l38_1 n1 Γ n2 s0 (IntKind.wrap IntKind.i64 (x1 + 1)) x2 x3 s4 x5 x6 x7 := (Jn_step ..).trans (by kernel_rfl)
theorem q38_7_eq (Γ : Bool → SemL) (n1 : Nat) (s0 : ByteArray) (x1 : Int) (x2 : Int) (x3 : Int) (s4 : ByteArray) (x5 : Int) (x6 : Int) (x7 : Int) : q38_7 Γ n1 s0 x1 x2 x3 s4 x5 x6 x7 = bif
  decide (0 ≤ x1) && decide (x1 ≤ Int.ofNat (ByteArray.size s0)) && true && decide (0 ≤ x1) then some (Out.mk true (V.tup [V.agg [X.d (D.int IntKind.i64 3), X.d (D.str (ByteArray.extract s0 0
  (Int.toNat x1))), X.d (D.int IntKind.i64 x2), X.d (D.int IntKind.i64 0), X.d (D.int IntKind.i64 0)], V.one (X.d (D.int IntKind.i64 0))]) D.junk [] 0) else none := (Jn_step ..).trans (by
  kernel_rfl)
theorem l73_0_eq (n0 : Nat) (Γ : Bool → SemL) (n2 : Nat) (s0 : ByteArray) (r1 : List (List D)) (x2 : Int) (x3 : Int) : l73_0 (n0 + 1) Γ n2 s0 r1 x2 x3 = bif decide (x3 < x2) then q73_0 Γ n0
  n2 s0 r1 x2 x3 else q73_2 Γ n2 s0 := (loop_step ..).trans (by kernel_rfl)
theorem l17_1_v1_eq (n0 : Nat) (Γ : Bool → SemL) (n2 : Nat) (n3 : Nat) (s0 : ByteArray) (r1 : List (List D)) (x2 : Int) (x3 : Int) (x4 : Int) (x5 : Int) (s6 : ByteArray) (x7 : Int) (x8 : Int)
  : l17_1_v1 (n0 + 1) Γ n2 n3 s0 r1 x2 x3 x4 x5 s6 x7 x8 = bif decide (x4 < Int.ofNat (ByteArray.size s0)) then bif decide (0 ≤ x4) && decide (x4 < Int.ofNat (ByteArray.size s0)) then bif
  Int.ofNat (UInt8.toNat (ByteArray.get! s0 (Int.toNat x4))) != 10 then q17_2_v1 Γ n0 n2 n3 s0 r1 x2 x3 x4 x5 s6 x7 x8 else q17_3_v1 Γ n2 n3 s0 r1 x2 x3 x4 x5 s6 x7 x8 else none else q17_3_v1
  Γ n2 n3 s0 r1 x2 x3 x4 x5 s6 x7 x8 := (loop_step ..).trans (by kernel_rfl)
theorem q17_4_v1_eq (Γ : Bool → SemL) (n1 : Nat) (n2 : Nat) (s0 : ByteArray) (r1 : List (List D)) (x2 : Int) (x3 : Int) (x4 : Int) (x5 : Int) (s6 : ByteArray) (x7 : Int) (x8 : Int) : q17_4_v1
  Γ n1 n2 s0 r1 x2 x3 x4 x5 s6 x7 x8 = bif decide (0 ≤ Int.ofNat (ByteArray.size s0)) && decide (Int.ofNat (ByteArray.size s0) ≤ Int.ofNat (ByteArray.size s0)) && decide (0 ≤ x4) && decide
  (x4 ≤ Int.ofNat (ByteArray.size s0)) then r_t2a5ISIIIoI (Γ false 38 [V.one (X.d (D.str (ByteArray.extract s0 (Int.toNat x4) (Int.toNat (Int.ofNat (ByteArray.size s0))))))] []) (fun i0_ u1_
  i2_ i3_ i4_ i5_ => bif i5_ != 0 then some (Out.mk true (V.tup [V.one (X.d (D.list 5 [])), V.agg [X.d (D.int IntKind.i64 i5_), X.d (D.str u1_), X.d (D.int IntKind.i64 x2), X.d (D.int
  IntKind.i64 (IntKind.wrap IntKind.i64 (IntKind.wrap IntKind.i64 (x4 - x3) + 1)))]]) D.junk [] 0) else q17_5_v1 Γ n1 n2 s0 r1 x2 x3 x4 x5 s6 x7 x8 i0_ u1_ i2_ x2 (IntKind.wrap IntKind.i64
  (IntKind.wrap IntKind.i64 (x4 - x3) + 1))) fun d6_ => some (Out.mk false V.junk d6_ [] 0) else none := (Jn_step ..).trans (by kernel_rfl)
theorem q38_3_eq (Γ : Bool → SemL) (n1 : Nat) (s0 : ByteArray) (x1 : Int) (x2 : Int) (s3 : ByteArray) (x4 : Int) (x5 : Int) (x6 : Int) : q38_3 Γ n1 s0 x1 x2 s3 x4 x5 x6 = bif decide (0 ≤ x1)
  && decide (x1 ≤ Int.ofNat (ByteArray.size s0)) && true && decide (0 ≤ x1) then some (Out.mk true (V.tup [V.agg [X.d (D.int IntKind.i64 1), X.d (D.str (ByteArray.extract s0 0 (Int.toNat
  x1))), X.d (D.int IntKind.i64 0), X.d (D.int IntKind.i64 0), X.d (D.int IntKind.i64 0)], V.one (X.d (D.int IntKind.i64 0))]) D.junk [] 0) else none := (Jn_step ..).trans (by kernel_rfl)
theorem q73_0_eq (Γ : Bool → SemL) (n1 : Nat) (n2 : Nat) (s0 : ByteArray) (r1 : List (List D)) (x2 : Int) (x3 : Int) : q73_0 Γ n1 n2 s0 r1 x2 x3 = bif decide (0 ≤ x3) && decide (x3 <
  Int.ofNat (List.length r1)) then r_oB (Γ false 100 [V.one (X.d (D.str s0)), V.one (X.d (List.getD (List.getD r1 (Int.toNat x3) []) 0 D.junk))] []) (fun c0_ => bif c0_ then some (Out.mk true
  (V.one (X.d (List.getD (List.getD r1 (Int.toNat x3) []) 0 D.junk))) D.junk [] 0) else q73_1 Γ n1 n2 s0 r1 x2 x3) fun d1_ => some (Out.mk false V.junk d1_ [] 0) else none := (Jn_step
  ..).trans (by kernel_rfl)
theorem q73_2_eq (Γ : Bool → SemL) (n1 : Nat) (s0 : ByteArray) : q73_2 Γ n1 s0 = bif true && decide (0 < Int.ofNat (ByteArray.size s0)) then r_oI (Γ false 101 [V.one (X.d (D.str (ByteArray.mk
  #[40, 41, 91, 93, 123, 125, 44, 59, 58, 124, 43, 45, 42, 47, 37, 61, 60]))), V.one (X.d (D.int IntKind.u8 (Int.ofNat (UInt8.toNat (ByteArray.get! s0 0)))))] []) (fun i0_ => bif decide (i0_
  ≥ 0) then bif true && decide (1 ≤ Int.ofNat (ByteArray.size s0)) && true && true then some (Out.mk true (V.one (X.d (D.str (ByteArray.extract s0 0 1)))) D.junk [] 0) else none else q73_3 Γ
  n1) fun d1_ => some (Out.mk false V.junk d1_ [] 0) else none := (Jn_step ..).trans (by kernel_rfl)
theorem q17_2_v1_eq (Γ : Bool → SemL) (n1 : Nat) (n2 : Nat) (n3 : Nat) (s0 : ByteArray) (r1 : List (List D)) (x2 : Int) (x3 : Int) (x4 : Int) (x5 : Int) (s6 : ByteArray) (x7 : Int) (x8 : Int)
  : q17_2_v1 Γ n1 n2 n3 s0 r1 x2 x3 x4 x5 s6 x7 x8 = l17_1_v1 n1 Γ n2 n3 s0 r1 x2 x3 (IntKind.wrap IntKind.i64 (x4 + 1)) x5 s6 x7 x8 := (Jn_step ..).trans (by kernel_rfl)
theorem q17_3_v1_eq (Γ : Bool → SemL) (n1 : Nat) (n2 : Nat) (s0 : ByteArray) (r1 : List (List D)) (x2 : Int) (x3 : Int) (x4 : Int) (x5 : Int) (s6 : ByteArray) (x7 : Int) (x8 : Int) : q17_3_v1
  Γ n1 n2 s0 r1 x2 x3 x4 x5 s6 x7 x8 = l17_0_v1 n1 Γ n2 s0 r1 x2 x3 x4 x5 s6 x7 x8 := (Jn_step ..).trans (by kernel_rfl)
theorem q17_5_v1_eq (Γ : Bool → SemL) (n1 : Nat) (n2 : Nat) (s0 : ByteArray) (r1 : List (List D)) (x2 : Int) (x3 : Int) (x4 : Int) (x5 : Int) (s6 : ByteArray) (x7 : Int) (x8 : Int) (x9 : Int)
  (s10 : ByteArray) (x11 : Int) (x12 : Int) (x13 : Int) : q17_5_v1 Γ n1 n2 s0 r1 x2 x3 x4 x5 s6 x7 x8 x9 s10 x11 x12 x13 = bif true && true && true && Nat.ble ((List.length r1 + List.length
  [[D.int IntKind.i64 x9, D.str s10, D.int IntKind.i64 x11, D.int IntKind.i64 x12, D.int IntKind.i64 x13]]) * 49) 140737488355328 then l17_0_v1 n1 Γ n2 s0 (r1 ++ [[D.int IntKind.i64 x9, D.str
  s10, D.int IntKind.i64 x11, D.int IntKind.i64 x12, D.int IntKind.i64 x13]]) x2 x3 (IntKind.wrap IntKind.i64 (x4 + Int.ofNat (ByteArray.size s10))) x5 s6 x7 x8 else none := (Jn_step
  ..).trans (by kernel_rfl)
theorem e100_eq (Γ : Bool → SemL) (n1 : Nat) (s0 : ByteArray) (s1 : ByteArray) : e100 Γ n1 s0 s1 = r_oB (Γ false 112 [V.one (X.d (D.str s0)), V.one (X.d (D.str s1))] []) (fun c0_ => some
  (Out.mk true (V.one (X.d (D.bool c0_))) D.junk [] 0)) fun d1_ => some (Out.mk false V.junk d1_ [] 0) := (run_step ..).trans (by kernel_rfl)
theorem q73_1_eq (Γ : Bool → SemL) (n1 : Nat) (n2 : Nat) (s0 : ByteArray) (r1 : List (List D)) (x2 : Int) (x3 : Int) : q73_1 Γ n1 n2 s0 r1 x2 x3 = l73_0 n1 Γ n2 s0 r1 x2 (IntKind.wrap
  IntKind.i64 (x3 + 1)) := (Jn_step ..).trans (by kernel_rfl)
theorem q73_3_eq (Γ : Bool → SemL) (n1 : Nat) : q73_3 Γ n1 = some (Out.mk true (V.one (X.d (D.str (ByteArray.mk #[])))) D.junk [] 0) := (Jn_step ..).trans (by kernel_rfl)
theorem e112_eq (Γ : Bool → SemL) (n1 : Nat) (s0 : ByteArray) (s1 : ByteArray) : e112 Γ n1 s0 s1 = bif decide (Int.ofNat (ByteArray.size s0) ≥ Int.ofNat (ByteArray.size s1)) then bif decide
  (0 ≤ Int.ofNat (ByteArray.size s1)) && decide (Int.ofNat (ByteArray.size s1) ≤ Int.ofNat (ByteArray.size s0)) && true && decide (0 ≤ Int.ofNat (ByteArray.size s1)) then some (Out.mk true
  (V.one (X.d (D.bool (beqL (Array.toList (ByteArray.data (ByteArray.extract s0 0 (Int.toNat (Int.ofNat (ByteArray.size s1)))))) (Array.toList (ByteArray.data s1)))))) D.junk [] 0) else none
  else some (Out.mk true (V.one (X.d (D.bool false))) D.junk [] 0) := (run_step ..).trans (by kernel_rfl)
theorem call17 (s0 : ByteArray) {o : Out} (h : Ev (fun _ k n => e17 (Ak k) n s0) o) : Cal 17 [V.one (X.d (D.str s0))] [] o := Ev.call (E := fun Γ n1 => e17 Γ n1 s0) (fun k => call_step (by
  kernel_rfl) rfl) h
theorem call38 (s0 : ByteArray) {o : Out} (h : Ev (fun _ k n => e38 (Ak k) n s0) o) : Cal 38 [V.one (X.d (D.str s0))] [] o := Ev.call (E := fun Γ n1 => e38 Γ n1 s0) (fun k => call_step (by
  kernel_rfl) rfl) h
theorem call70 (x0 : Int) {o : Out} (h : Ev (fun _ k n => e70 (Ak k) n x0) o) : Cal 70 [V.one (X.d (D.int IntKind.u8 x0))] [] o := Ev.call (E := fun Γ n1 => e70 Γ n1 x0) (fun k => call_step
  (by kernel_rfl) rfl) h
theorem call71 (x0 : Int) {o : Out} (h : Ev (fun _ k n => e71 (Ak k) n x0) o) : Cal 71 [V.one (X.d (D.int IntKind.u8 x0))] [] o := Ev.call (E := fun Γ n1 => e71 Γ n1 x0) (fun k => call_step
  (by kernel_rfl) rfl) h
theorem call73 (s0 : ByteArray) {o : Out} (h : Ev (fun _ k n => e73 (Ak k) n s0) o) : Cal 73 [V.one (X.d (D.str s0))] [] o := Ev.call (E := fun Γ n1 => e73 Γ n1 s0) (fun k => call_step (by
  kernel_rfl) rfl) h
theorem call100 (s0 : ByteArray) (s1 : ByteArray) {o : Out} (h : Ev (fun _ k n => e100 (Ak k) n s0 s1) o) : Cal 100 [V.one (X.d (D.str s0)), V.one (X.d (D.str s1))] [] o := Ev.call (E := fun
  Γ n1 => e100 Γ n1 s0 s1) (fun k => call_step (by kernel_rfl) rfl) h
theorem call112 (s0 : ByteArray) (s1 : ByteArray) {o : Out} (h : Ev (fun _ k n => e112 (Ak k) n s0 s1) o) : Cal 112 [V.one (X.d (D.str s0)), V.one (X.d (D.str s1))] [] o := Ev.call (E := fun
  Γ n1 => e112 Γ n1 s0 s1) (fun k => call_step (by kernel_rfl) rfl) h
end Go.Proofs.YtaphnbaiamnfpaaDoor.Ps
