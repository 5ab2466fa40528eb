/- What the pieces of the functions do, as functions of their data. Printed by pack3.py. -/
import Derived.Test.YtkpdofiflhjahaaDoorPv0
namespace Go.Proofs.YtkpdofiflhjahaaDoor.Ps
set_option maxHeartbeats 0
set_option maxRecDepth 100000
set_option linter.unusedVariables false
open Go Go.RowKit
noncomputable def e16 (Γ : SemL) (n1 : Nat) (x0 : Int) (r1 : List (List D)) : Option Out := runF Γ shp (Sh.owns (shp 16)) sf16 n1 [V.agg [X.d (D.int IntKind.i64 x0), X.d (D.list 2 r1)]] []
noncomputable def e14 (Γ : SemL) (n1 : Nat) (s0 : ByteArray) : Option Out := runF Γ shp (Sh.owns (shp 14)) sf14 n1 [V.one (X.d (D.str s0))] []
noncomputable def e15 (Γ : SemL) (n1 : Nat) (s0 : ByteArray) : Option Out := runF Γ shp (Sh.owns (shp 15)) sf15 n1 [V.one (X.d (D.str s0))] []
noncomputable def e17 (Γ : SemL) (n1 : Nat) (x0 : Int) (r1 : List (List D)) : Option Out := runF Γ shp (Sh.owns (shp 17)) sf17 n1 [V.agg [X.d (D.int IntKind.i64 x0), X.d (D.list 2 r1)]] []
noncomputable def e18 (Γ : SemL) (n1 : Nat) (x0 : Int) (r1 : List (List D)) (x2 : Int) (r3 : List (List D)) : Option Out := runF Γ shp (Sh.owns (shp 18)) sf18 n1 [V.agg [X.d (D.int
  IntKind.i64 x0), X.d (D.list 2 r1)], V.agg [X.d (D.int IntKind.i64 x2), X.d (D.list 2 r3)]] []
noncomputable def e19 (Γ : SemL) (n1 : Nat) (x0 : Int) (r1 : List (List D)) (x2 : Int) (r3 : List (List D)) : Option Out := runF Γ shp (Sh.owns (shp 19)) sf19 n1 [V.agg [X.d (D.int
  IntKind.i64 x0), X.d (D.list 2 r1)], V.agg [X.d (D.int IntKind.i64 x2), X.d (D.list 2 r3)]] []
noncomputable def e20 (Γ : SemL) (n1 : Nat) (x0 : Int) (r1 : List (List D)) : Option Out := runF Γ shp (Sh.owns (shp 20)) sf20 n1 [V.agg [X.d (D.int IntKind.i64 x0), X.d (D.list 2 r1)]] []
noncomputable def e21 (Γ : SemL) (n1 : Nat) (x0 : Int) (r1 : List (List D)) : Option Out := runF Γ shp (Sh.owns (shp 21)) sf21 n1 [V.agg [X.d (D.int IntKind.i64 x0), X.d (D.list 2 r1)]] []
noncomputable def e22 (Γ : SemL) (n1 : Nat) (x0 : Int) (r1 : List (List D)) (x2 : Int) (r3 : List (List D)) : Option Out := runF Γ shp (Sh.owns (shp 22)) sf22 n1 [V.agg [X.d (D.int
  IntKind.i64 x0), X.d (D.list 2 r1)], V.agg [X.d (D.int IntKind.i64 x2), X.d (D.list 2 r3)]] []
noncomputable def e45 (Γ : SemL) (n1 : Nat) (x0 : Int) (r1 : List (List D)) (x2 : Int) : Option Out := runF Γ shp (Sh.owns (shp 45)) sf45 n1 [V.agg [X.d (D.int IntKind.i64 x0), X.d (D.list 2
  r1)], V.one (X.d (D.int IntKind.i64 x2))] []
noncomputable def e22_v1 (Γ : SemL) (n1 : Nat) (x0 : Int) (r1 : List (List D)) (x2 : Int) : Option Out := runF Γ shp (Sh.owns (shp 22)) sf22 n1 [V.agg [X.d (D.int IntKind.i64 x0), X.d (D.list
  2 r1)], V.agg [X.d (D.int IntKind.i64 x2), X.nilL 2]] []
noncomputable def e43 (Γ : SemL) (n1 : Nat) (s0 : ByteArray) (x1 : Int) : Option Out := runF Γ shp (Sh.owns (shp 43)) sf43 n1 [V.one (X.d (D.str s0)), V.one (X.d (D.int IntKind.i64 x1))] []
noncomputable def q14_0 (Γ : SemL) (n1 : Nat) (x0 : Int) (x1 : Int) (r2 : List (List D)) : Option Out := Jn Γ shp n1 j14_0 (St.mk [(2, V.one (X.ptr 0 0)), (4, V.one (X.ptr 1 0))] [(0, Blk.mk
  [Lf.int IntKind.i64, Lf.lst 2] [X.d (D.int IntKind.i64 x0), X.nilL 2]), (1, Blk.mk [Lf.int IntKind.i64, Lf.lst 2] [X.d (D.int IntKind.i64 x1), X.d (D.list 2 r2)])] [] 2 0 0) (finK (Sh.owns
  (shp 14)) (SFunc.results sf14) 0)
noncomputable def e44 (Γ : SemL) (n1 : Nat) (s0 : ByteArray) (x1 : Int) (x2 : Int) : Option Out := runF Γ shp (Sh.owns (shp 44)) sf44 n1 [V.one (X.d (D.str s0)), V.one (X.d (D.int IntKind.i64
  x1)), V.one (X.d (D.int IntKind.i64 x2))] []
noncomputable def q15_0 (Γ : SemL) (n1 : Nat) (x0 : Int) (x1 : Int) (r2 : List (List D)) : Option Out := Jn Γ shp n1 j15_0 (St.mk [(2, V.one (X.ptr 0 0)), (4, V.one (X.ptr 1 0))] [(0, Blk.mk
  [Lf.int IntKind.i64, Lf.lst 2] [X.d (D.int IntKind.i64 x0), X.nilL 2]), (1, Blk.mk [Lf.int IntKind.i64, Lf.lst 2] [X.d (D.int IntKind.i64 x1), X.d (D.list 2 r2)])] [] 2 0 0) (finK (Sh.owns
  (shp 15)) (SFunc.results sf15) 0)
noncomputable def e46 (Γ : SemL) (n1 : Nat) (x0 : Int) (r1 : List (List D)) (x2 : Int) : Option Out := runF Γ shp (Sh.owns (shp 46)) sf46 n1 [V.agg [X.d (D.int IntKind.i64 x0), X.d (D.list 2
  r1)], V.one (X.d (D.int IntKind.i64 x2))] []
noncomputable def e47 (Γ : SemL) (n1 : Nat) (r0 : List (List D)) (r1 : List (List D)) : Option Out := runF Γ shp (Sh.owns (shp 47)) sf47 n1 [V.one (X.d (D.list 2 r0)), V.one (X.d (D.list 2
  r1)), V.one (X.fn 18 [])] []
noncomputable def q19_0 (Γ : SemL) (n1 : Nat) (x0 : Int) (r1 : List (List D)) (x2 : Int) (r3 : List (List D)) : Option Out := Jn Γ shp n1 j19_0 (St.mk [(2, V.one (X.ptr 0 0)), (3, V.one
  (X.ptr 1 0))] [(0, Blk.mk [Lf.int IntKind.i64, Lf.lst 2] [X.d (D.int IntKind.i64 x0), X.d (D.list 2 r1)]), (1, Blk.mk [Lf.int IntKind.i64, Lf.lst 2] [X.d (D.int IntKind.i64 x2), X.d (D.list
  2 r3)])] [] 2 0 0) (finK (Sh.owns (shp 19)) (SFunc.results sf19) 0)
noncomputable def l20_0 (n0 : Nat) (Γ : SemL) (n2 : Nat) (r0 : List (List D)) (x1 : Int) (x2 : Int) (x3 : Int) (r4 : List (List D)) : Option Out := loopK Γ shp n0 [1, 3, 8, 9, 10] lb20_0
  (St.mk [(1, V.one (X.ptr 0 0)), (3, V.one (X.nilL 1)), (8, V.one (X.d (D.list 2 r0))), (9, V.one (X.d (D.int IntKind.i64 x1))), (10, V.one (X.d (D.int IntKind.i64 x2)))] [(0, Blk.mk [Lf.int
  IntKind.i64, Lf.lst 2] [X.d (D.int IntKind.i64 x3), X.d (D.list 2 r4)])] [] 1 0 0) (kBlk 0 (kSeq (some [1, 3]) (fun s K => Jn Γ shp n2 j20_2 s K) (finK (Sh.owns (shp 20)) (SFunc.results
  sf20) 0)))
noncomputable def l21_0 (n0 : Nat) (Γ : SemL) (n2 : Nat) (x0 : Int) (x1 : Int) (r2 : List (List D)) : Option Out := loopK Γ shp n0 [1, 3, 4] lb21_0 (St.mk [(1, V.one (X.ptr 0 0)), (3, V.one
  (X.nilL 1)), (4, V.one (X.d (D.int IntKind.i64 x0)))] [(0, Blk.mk [Lf.int IntKind.i64, Lf.lst 2] [X.d (D.int IntKind.i64 x1), X.d (D.list 2 r2)])] [] 1 0 0) (kBlk 0 (kSeq (some [1, 3]) (fun
  s K => Jn Γ shp n2 j21_2 s K) (finK (Sh.owns (shp 21)) (SFunc.results sf21) 0)))
noncomputable def q22_0 (Γ : SemL) (n1 : Nat) (x0 : Int) (r1 : List (List D)) (x2 : Int) (r3 : List (List D)) : Option Out := Jn Γ shp n1 j22_0 (St.mk [(2, V.one (X.ptr 0 0)), (3, V.one
  (X.ptr 1 0))] [(0, Blk.mk [Lf.int IntKind.i64, Lf.lst 2] [X.d (D.int IntKind.i64 x0), X.d (D.list 2 r1)]), (1, Blk.mk [Lf.int IntKind.i64, Lf.lst 2] [X.d (D.int IntKind.i64 x2), X.d (D.list
  2 r3)])] [] 2 0 0) (finK (Sh.owns (shp 22)) (SFunc.results sf22) 0)
noncomputable def q45_0 (Γ : SemL) (n1 : Nat) (x0 : Int) (r1 : List (List D)) (x2 : Int) : Option Out := Jn Γ shp n1 j45_0 (St.mk [(2, V.one (X.ptr 0 0)), (3, V.one (X.ptr 1 0))] [(0, Blk.mk
  [Lf.int IntKind.i64, Lf.lst 2] [X.d (D.int IntKind.i64 x0), X.d (D.list 2 r1)]), (1, Blk.mk [Lf.int IntKind.i64] [X.d (D.int IntKind.i64 x2)])] [] 2 0 0) (finK (Sh.owns (shp 45))
  (SFunc.results sf45) 0)
noncomputable def q22_0_v1 (Γ : SemL) (n1 : Nat) (x0 : Int) (r1 : List (List D)) (x2 : Int) : Option Out := Jn Γ shp n1 j22_0 (St.mk [(2, V.one (X.ptr 0 0)), (3, V.one (X.ptr 1 0))] [(0,
  Blk.mk [Lf.int IntKind.i64, Lf.lst 2] [X.d (D.int IntKind.i64 x0), X.d (D.list 2 r1)]), (1, Blk.mk [Lf.int IntKind.i64, Lf.lst 2] [X.d (D.int IntKind.i64 x2), X.nilL 2])] [] 2 0 0) (finK
  (Sh.owns (shp 22)) (SFunc.results sf22) 0)
noncomputable def q43_0 (Γ : SemL) (n1 : Nat) (s0 : ByteArray) (x1 : Int) (x2 : Int) : Option Out := Jn Γ shp n1 j43_0 (St.mk [(0, V.one (X.d (D.str s0))), (1, V.one (X.d (D.int IntKind.i64
  x1))), (4, V.one (X.ptr 0 0))] [(0, Blk.mk [Lf.int IntKind.i64, Lf.lst 2] [X.d (D.int IntKind.i64 x2), X.nilL 2])] [] 1 0 0) (finK (Sh.owns (shp 43)) (SFunc.results sf43) 0)
noncomputable def e66 (Γ : SemL) (n1 : Nat) (s0 : ByteArray) (x1 : Int) (s2 : ByteArray) : Option Out := runF Γ shp (Sh.owns (shp 66)) sf66 n1 [V.one (X.d (D.str s0)), V.one (X.d (D.int
  IntKind.i64 x1)), V.one (X.d (D.str s2))] []
noncomputable def l44_0 (n0 : Nat) (Γ : SemL) (n2 : Nat) (s0 : ByteArray) (x1 : Int) (x2 : Int) (x3 : Int) (x4 : Int) : Option Out := loopK Γ shp n0 [0, 1, 2, 6, 12] lb44_0 (St.mk [(0, V.one
  (X.d (D.str s0))), (1, V.one (X.d (D.int IntKind.i64 x1))), (2, V.one (X.d (D.int IntKind.i64 x2))), (6, V.one (X.ptr 0 0)), (12, V.one (X.ptr 1 0))] [(0, Blk.mk [Lf.int IntKind.i64, Lf.lst
  2] [X.d (D.int IntKind.i64 x3), X.nilL 2]), (1, Blk.mk [Lf.int IntKind.i64, Lf.lst 2] [X.d (D.int IntKind.i64 x4), X.nilL 2])] [] 2 0 0) (kBlk 1 (kBlk 0 (kSeq (some [6]) (fun s K => Jn Γ
  shp n2 j44_2 s K) (finK (Sh.owns (shp 44)) (SFunc.results sf44) 0))))
noncomputable def q44_2 (Γ : SemL) (n1 : Nat) (x0 : Int) : Option Out := Jn Γ shp n1 j44_2 (St.mk [(6, V.one (X.ptr 0 0))] [(0, Blk.mk [Lf.int IntKind.i64, Lf.lst 2] [X.d (D.int IntKind.i64
  x0), X.nilL 2])] [] 1 0 0) (finK (Sh.owns (shp 44)) (SFunc.results sf44) 0)
noncomputable def q46_0 (Γ : SemL) (n1 : Nat) (x0 : Int) (x1 : Int) (x2 : Int) (r3 : List (List D)) : Option Out := Jn Γ shp n1 j46_0 (St.mk [(1, V.one (X.d (D.int IntKind.i64 x0))), (2,
  V.one (X.ptr 0 0)), (5, V.one (X.d (D.int IntKind.i64 x1)))] [(0, Blk.mk [Lf.int IntKind.i64, Lf.lst 2] [X.d (D.int IntKind.i64 x2), X.d (D.list 2 r3)])] [] 1 0 0) (finK (Sh.owns (shp 46))
  (SFunc.results sf46) 0)
noncomputable def q47_0 (Γ : SemL) (n1 : Nat) (r0 : List (List D)) (r1 : List (List D)) : Option Out := Jn Γ shp n1 j47_0 (St.mk [(0, V.one (X.d (D.list 2 r0))), (1, V.one (X.d (D.list 2
  r1))), (2, V.one (X.fn 18 []))] [] [] 0 0 0) (finK (Sh.owns (shp 47)) (SFunc.results sf47) 0)
noncomputable def l19_0 (n0 : Nat) (Γ : SemL) (n2 : Nat) (x0 : Int) (x1 : Int) (r2 : List (List D)) (x3 : Int) (r4 : List (List D)) : Option Out := loopK Γ shp n0 [2, 3, 5] lb19_0 (St.mk [(2,
  V.one (X.ptr 0 0)), (3, V.one (X.ptr 1 0)), (5, V.one (X.d (D.int IntKind.i64 x0)))] [(0, Blk.mk [Lf.int IntKind.i64, Lf.lst 2] [X.d (D.int IntKind.i64 x1), X.d (D.list 2 r2)]), (1, Blk.mk
  [Lf.int IntKind.i64, Lf.lst 2] [X.d (D.int IntKind.i64 x3), X.d (D.list 2 r4)])] [] 2 0 0) (kBlk 0 (kSeq (some []) (fun s K => Jn Γ shp n2 j19_3 s K) (finK (Sh.owns (shp 19)) (SFunc.results
  sf19) 0)))
noncomputable def q20_0 (Γ : SemL) (n1 : Nat) (n2 : Nat) (r0 : List (List D)) (x1 : Int) (x2 : Int) (x3 : Int) (r4 : List (List D)) : Option Out := Jn Γ shp n1 j20_0 (St.mk [(1, V.one (X.ptr
  0 0)), (3, V.one (X.nilL 1)), (8, V.one (X.d (D.list 2 r0))), (9, V.one (X.d (D.int IntKind.i64 x1))), (10, V.one (X.d (D.int IntKind.i64 x2)))] [(0, Blk.mk [Lf.int IntKind.i64, Lf.lst 2]
  [X.d (D.int IntKind.i64 x3), X.d (D.list 2 r4)])] [] 1 0 0) (kLoop (loopK Γ shp n1) [1, 3, 8, 9, 10] lb20_0 (kBlk 0 (kSeq (some [1, 3]) (fun s K => Jn Γ shp n2 j20_2 s K) (finK (Sh.owns
  (shp 20)) (SFunc.results sf20) 0))))
noncomputable def q20_2 (Γ : SemL) (n1 : Nat) (x0 : Int) (r1 : List (List D)) : Option Out := Jn Γ shp n1 j20_2 (St.mk [(1, V.one (X.ptr 0 0)), (3, V.one (X.nilL 1))] [(0, Blk.mk [Lf.int
  IntKind.i64, Lf.lst 2] [X.d (D.int IntKind.i64 x0), X.d (D.list 2 r1)])] [] 1 0 0) (finK (Sh.owns (shp 20)) (SFunc.results sf20) 0)
noncomputable def q21_0 (Γ : SemL) (n1 : Nat) (n2 : Nat) (x0 : Int) (x1 : Int) (r2 : List (List D)) : Option Out := Jn Γ shp n1 j21_0 (St.mk [(1, V.one (X.ptr 0 0)), (3, V.one (X.nilL 1)),
  (4, V.one (X.d (D.int IntKind.i64 x0)))] [(0, Blk.mk [Lf.int IntKind.i64, Lf.lst 2] [X.d (D.int IntKind.i64 x1), X.d (D.list 2 r2)])] [] 1 0 0) (kLoop (loopK Γ shp n1) [1, 3, 4] lb21_0
  (kBlk 0 (kSeq (some [1, 3]) (fun s K => Jn Γ shp n2 j21_2 s K) (finK (Sh.owns (shp 21)) (SFunc.results sf21) 0))))
noncomputable def q21_2 (Γ : SemL) (n1 : Nat) (x0 : Int) (r1 : List (List D)) : Option Out := Jn Γ shp n1 j21_2 (St.mk [(1, V.one (X.ptr 0 0)), (3, V.one (X.nilL 1))] [(0, Blk.mk [Lf.int
  IntKind.i64, Lf.lst 2] [X.d (D.int IntKind.i64 x0), X.d (D.list 2 r1)])] [] 1 0 0) (finK (Sh.owns (shp 21)) (SFunc.results sf21) 0)
noncomputable def l22_0 (n0 : Nat) (Γ : SemL) (n2 : Nat) (x0 : Int) (x1 : Int) (r2 : List (List D)) (x3 : Int) (r4 : List (List D)) : Option Out := loopK Γ shp n0 [2, 3, 5] lb22_0 (St.mk [(2,
  V.one (X.ptr 0 0)), (3, V.one (X.ptr 1 0)), (5, V.one (X.d (D.int IntKind.i64 x0)))] [(0, Blk.mk [Lf.int IntKind.i64, Lf.lst 2] [X.d (D.int IntKind.i64 x1), X.d (D.list 2 r2)]), (1, Blk.mk
  [Lf.int IntKind.i64, Lf.lst 2] [X.d (D.int IntKind.i64 x3), X.d (D.list 2 r4)])] [] 2 0 0) (kBlk 0 (kSeq (some []) (fun s K => Jn Γ shp n2 j22_3 s K) (finK (Sh.owns (shp 22)) (SFunc.results
  sf22) 0)))
noncomputable def q45_1 (Γ : SemL) (n1 : Nat) (x0 : Int) (b1 : Bool) (x2 : Int) (r3 : List (List D)) (x4 : Int) : Option Out := Jn Γ shp n1 j45_1 (St.mk [(2, V.one (X.ptr 0 0)), (3, V.one
  (X.ptr 1 0)), (8, V.one (X.d (D.int IntKind.i64 x0))), (9, V.one (X.d (D.bool b1)))] [(0, Blk.mk [Lf.int IntKind.i64, Lf.lst 2] [X.d (D.int IntKind.i64 x2), X.d (D.list 2 r3)]), (1, Blk.mk
  [Lf.int IntKind.i64] [X.d (D.int IntKind.i64 x4)])] [] 2 0 0) (kBlk 0 (kSeq (some [2, 3]) (fun s K => Jn Γ shp n1 j45_2 s K) (finK (Sh.owns (shp 45)) (SFunc.results sf45) 0)))
noncomputable def l22_0_v1 (n0 : Nat) (Γ : SemL) (n2 : Nat) (x0 : Int) (x1 : Int) (r2 : List (List D)) (x3 : Int) : Option Out := loopK Γ shp n0 [2, 3, 5] lb22_0 (St.mk [(2, V.one (X.ptr 0
  0)), (3, V.one (X.ptr 1 0)), (5, V.one (X.d (D.int IntKind.i64 x0)))] [(0, Blk.mk [Lf.int IntKind.i64, Lf.lst 2] [X.d (D.int IntKind.i64 x1), X.d (D.list 2 r2)]), (1, Blk.mk [Lf.int
  IntKind.i64, Lf.lst 2] [X.d (D.int IntKind.i64 x3), X.nilL 2])] [] 2 0 0) (kBlk 0 (kSeq (some []) (fun s K => Jn Γ shp n2 j22_3 s K) (finK (Sh.owns (shp 22)) (SFunc.results sf22) 0)))
noncomputable def e65 (Γ : SemL) (n1 : Nat) (s0 : ByteArray) (s1 : ByteArray) : Option Out := runF Γ shp (Sh.owns (shp 65)) sf65 n1 [V.one (X.d (D.str s0)), V.one (X.d (D.str s1))] []
noncomputable def q43_1 (Γ : SemL) (n1 : Nat) (s0 : ByteArray) (x1 : Int) (x2 : Int) : Option Out := Jn Γ shp n1 j43_1 (St.mk [(0, V.one (X.d (D.str s0))), (1, V.one (X.d (D.int IntKind.i64
  x1))), (4, V.one (X.ptr 0 0))] [(0, Blk.mk [Lf.int IntKind.i64, Lf.lst 2] [X.d (D.int IntKind.i64 x2), X.nilL 2])] [] 1 0 0) (finK (Sh.owns (shp 43)) (SFunc.results sf43) 0)
noncomputable def q44_0 (Γ : SemL) (n1 : Nat) (n2 : Nat) (s0 : ByteArray) (x1 : Int) (x2 : Int) (x3 : Int) (x4 : Int) (x5 : Int) (r6 : List (List D)) : Option Out := Jn Γ shp n1 j44_0 (St.mk
  [(0, V.one (X.d (D.str s0))), (2, V.one (X.d (D.int IntKind.i64 x1))), (6, V.one (X.ptr 0 0)), (12, V.one (X.ptr 1 0)), (13, V.one (X.ptr 2 0)), (14, V.one (X.d (D.int IntKind.i64 x2)))]
  [(0, Blk.mk [Lf.int IntKind.i64, Lf.lst 2] [X.d (D.int IntKind.i64 x3), X.nilL 2]), (1, Blk.mk [Lf.int IntKind.i64, Lf.lst 2] [X.d (D.int IntKind.i64 x4), X.nilL 2]), (2, Blk.mk [Lf.int
  IntKind.i64, Lf.lst 2] [X.d (D.int IntKind.i64 x5), X.d (D.list 2 r6)])] [] 3 0 0) (kBlk 2 (kSeq (some [0, 1, 2, 6, 12]) (fun s K => Jn Γ shp n1 j44_1 s K) (kLoop (loopK Γ shp n1) [0, 1, 2,
  6, 12] lb44_0 (kBlk 1 (kBlk 0 (kSeq (some [6]) (fun s K => Jn Γ shp n2 j44_2 s K) (finK (Sh.owns (shp 44)) (SFunc.results sf44) 0)))))))
noncomputable def l46_0 (n0 : Nat) (Γ : SemL) (n2 : Nat) (x0 : Int) (x1 : Int) (x2 : Int) (x3 : Int) (r4 : List (List D)) : Option Out := loopK Γ shp n0 [1, 2, 5, 7] lb46_0 (St.mk [(1, V.one
  (X.d (D.int IntKind.i64 x0))), (2, V.one (X.ptr 0 0)), (5, V.one (X.d (D.int IntKind.i64 x1))), (7, V.one (X.d (D.int IntKind.i64 x2)))] [(0, Blk.mk [Lf.int IntKind.i64, Lf.lst 2] [X.d
  (D.int IntKind.i64 x3), X.d (D.list 2 r4)])] [] 1 0 0) (kBlk 0 (kSeq (some []) (fun s K => Jn Γ shp n2 j46_3 s K) (finK (Sh.owns (shp 46)) (SFunc.results sf46) 0)))
noncomputable def l47_0 (n0 : Nat) (Γ : SemL) (n2 : Nat) (r0 : List (List D)) (r1 : List (List D)) (x2 : Int) (x3 : Int) : Option Out := loopK Γ shp n0 [1, 2, 15, 16, 17] lb47_0 (St.mk [(1,
  V.one (X.d (D.list 2 r0))), (2, V.one (X.fn 18 [])), (15, V.one (X.d (D.list 2 r1))), (16, V.one (X.d (D.int IntKind.i64 x2))), (17, V.one (X.d (D.int IntKind.i64 x3)))] [] [] 0 0 0) (kBlk
  0 (kSeq (some []) (fun s K => Jn Γ shp n2 j47_3 s K) (finK (Sh.owns (shp 47)) (SFunc.results sf47) 0)))
noncomputable def q19_1 (Γ : SemL) (n1 : Nat) (n2 : Nat) (x0 : Int) (x1 : Int) (r2 : List (List D)) (x3 : Int) (r4 : List (List D)) : Option Out := Jn Γ shp n1 j19_1 (St.mk [(2, V.one (X.ptr
  0 0)), (3, V.one (X.ptr 1 0)), (5, V.one (X.d (D.int IntKind.i64 x0)))] [(0, Blk.mk [Lf.int IntKind.i64, Lf.lst 2] [X.d (D.int IntKind.i64 x1), X.d (D.list 2 r2)]), (1, Blk.mk [Lf.int
  IntKind.i64, Lf.lst 2] [X.d (D.int IntKind.i64 x3), X.d (D.list 2 r4)])] [] 2 0 0) (kLoop (loopK Γ shp n1) [2, 3, 5] lb19_0 (kBlk 0 (kSeq (some []) (fun s K => Jn Γ shp n2 j19_3 s K) (finK
  (Sh.owns (shp 19)) (SFunc.results sf19) 0))))
noncomputable def q19_3 (Γ : SemL) (n1 : Nat) : Option Out := Jn Γ shp n1 j19_3 (St.mk [] [] [] 0 0 0) (finK (Sh.owns (shp 19)) (SFunc.results sf19) 0)
noncomputable def q20_1 (Γ : SemL) (n1 : Nat) (n2 : Nat) (r0 : List (List D)) (r1 : List (List D)) (x2 : Int) (x3 : Int) (x4 : Int) (r5 : List (List D)) : Option Out := Jn Γ shp n1 j20_1
  (St.mk [(1, V.one (X.ptr 0 0)), (3, V.one (X.own 0 9 1 r0)), (8, V.one (X.d (D.list 2 r1))), (9, V.one (X.d (D.int IntKind.i64 x2))), (10, V.one (X.d (D.int IntKind.i64 x3)))] [(0, Blk.mk
  [Lf.int IntKind.i64, Lf.lst 2] [X.d (D.int IntKind.i64 x4), X.d (D.list 2 r5)])] [0] 1 1 0) (kLoop (loopK Γ shp n1) [1, 3, 8, 9, 10] lb20_0 (kBlk 0 (kSeq (some [1, 3]) (fun s K => Jn Γ shp
  n2 j20_2 s K) (finK (Sh.owns (shp 20)) (SFunc.results sf20) 0))))
noncomputable def q20_3 (Γ : SemL) (n1 : Nat) : Option Out := Jn Γ shp n1 j20_3 (St.mk [] [] [] 0 0 0) (finK (Sh.owns (shp 20)) (SFunc.results sf20) 0)
noncomputable def q21_1 (Γ : SemL) (n1 : Nat) (n2 : Nat) (r0 : List (List D)) (x1 : Int) (x2 : Int) (r3 : List (List D)) : Option Out := Jn Γ shp n1 j21_1 (St.mk [(1, V.one (X.ptr 0 0)), (3,
  V.one (X.own 0 9 1 r0)), (4, V.one (X.d (D.int IntKind.i64 x1)))] [(0, Blk.mk [Lf.int IntKind.i64, Lf.lst 2] [X.d (D.int IntKind.i64 x2), X.d (D.list 2 r3)])] [0] 1 1 0) (kLoop (loopK Γ shp
  n1) [1, 3, 4] lb21_0 (kBlk 0 (kSeq (some [1, 3]) (fun s K => Jn Γ shp n2 j21_2 s K) (finK (Sh.owns (shp 21)) (SFunc.results sf21) 0))))
noncomputable def e49 (Γ : SemL) (n1 : Nat) : Option Out := runF Γ shp (Sh.owns (shp 49)) sf49 n1 [V.one (X.nilL 1)] []
noncomputable def q21_3 (Γ : SemL) (n1 : Nat) : Option Out := Jn Γ shp n1 j21_3 (St.mk [] [] [] 0 0 0) (finK (Sh.owns (shp 21)) (SFunc.results sf21) 0)
noncomputable def q22_1 (Γ : SemL) (n1 : Nat) (n2 : Nat) (x0 : Int) (x1 : Int) (r2 : List (List D)) (x3 : Int) (r4 : List (List D)) : Option Out := Jn Γ shp n1 j22_1 (St.mk [(2, V.one (X.ptr
  0 0)), (3, V.one (X.ptr 1 0)), (5, V.one (X.d (D.int IntKind.i64 x0)))] [(0, Blk.mk [Lf.int IntKind.i64, Lf.lst 2] [X.d (D.int IntKind.i64 x1), X.d (D.list 2 r2)]), (1, Blk.mk [Lf.int
  IntKind.i64, Lf.lst 2] [X.d (D.int IntKind.i64 x3), X.d (D.list 2 r4)])] [] 2 0 0) (kLoop (loopK Γ shp n1) [2, 3, 5] lb22_0 (kBlk 0 (kSeq (some []) (fun s K => Jn Γ shp n2 j22_3 s K) (finK
  (Sh.owns (shp 22)) (SFunc.results sf22) 0))))
noncomputable def q22_3 (Γ : SemL) (n1 : Nat) : Option Out := Jn Γ shp n1 j22_3 (St.mk [] [] [] 0 0 0) (finK (Sh.owns (shp 22)) (SFunc.results sf22) 0)
noncomputable def q45_2 (Γ : SemL) (n1 : Nat) (x0 : Int) (r1 : List (List D)) (x2 : Int) : Option Out := Jn Γ shp n1 j45_2 (St.mk [(2, V.one (X.ptr 0 0)), (3, V.one (X.ptr 1 0))] [(0, Blk.mk
  [Lf.int IntKind.i64, Lf.lst 2] [X.d (D.int IntKind.i64 x0), X.d (D.list 2 r1)]), (1, Blk.mk [Lf.int IntKind.i64] [X.d (D.int IntKind.i64 x2)])] [] 2 0 0) (finK (Sh.owns (shp 45))
  (SFunc.results sf45) 0)
noncomputable def q22_1_v1 (Γ : SemL) (n1 : Nat) (n2 : Nat) (x0 : Int) (x1 : Int) (r2 : List (List D)) (x3 : Int) : Option Out := Jn Γ shp n1 j22_1 (St.mk [(2, V.one (X.ptr 0 0)), (3, V.one
  (X.ptr 1 0)), (5, V.one (X.d (D.int IntKind.i64 x0)))] [(0, Blk.mk [Lf.int IntKind.i64, Lf.lst 2] [X.d (D.int IntKind.i64 x1), X.d (D.list 2 r2)]), (1, Blk.mk [Lf.int IntKind.i64, Lf.lst 2]
  [X.d (D.int IntKind.i64 x3), X.nilL 2])] [] 2 0 0) (kLoop (loopK Γ shp n1) [2, 3, 5] lb22_0 (kBlk 0 (kSeq (some []) (fun s K => Jn Γ shp n2 j22_3 s K) (finK (Sh.owns (shp 22))
  (SFunc.results sf22) 0))))
noncomputable def e83 (Γ : SemL) (n1 : Nat) (s0 : ByteArray) (s1 : ByteArray) : Option Out := runF Γ shp (Sh.owns (shp 83)) sf83 n1 [V.one (X.d (D.str s0)), V.one (X.d (D.str s1))] []
noncomputable def q43_2 (Γ : SemL) (n1 : Nat) (s0 : ByteArray) (x1 : Int) (x2 : Int) : Option Out := Jn Γ shp n1 j43_2 (St.mk [(0, V.one (X.d (D.str s0))), (1, V.one (X.d (D.int IntKind.i64
  x1))), (4, V.one (X.ptr 0 0))] [(0, Blk.mk [Lf.int IntKind.i64, Lf.lst 2] [X.d (D.int IntKind.i64 x2), X.nilL 2])] [] 1 0 0) (finK (Sh.owns (shp 43)) (SFunc.results sf43) 0)
noncomputable def q44_1 (Γ : SemL) (n1 : Nat) (n2 : Nat) (s0 : ByteArray) (x1 : Int) (x2 : Int) (x3 : Int) (x4 : Int) (r5 : List (List D)) : Option Out := Jn Γ shp n1 j44_1 (St.mk [(0, V.one
  (X.d (D.str s0))), (1, V.one (X.d (D.int IntKind.i64 x1))), (2, V.one (X.d (D.int IntKind.i64 x2))), (6, V.one (X.ptr 0 0)), (12, V.one (X.ptr 1 0))] [(0, Blk.mk [Lf.int IntKind.i64, Lf.lst
  2] [X.d (D.int IntKind.i64 x3), X.nilL 2]), (1, Blk.mk [Lf.int IntKind.i64, Lf.lst 2] [X.d (D.int IntKind.i64 x4), X.own 0 24 2 r5])] [0] 2 1 0) (kLoop (loopK Γ shp n1) [0, 1, 2, 6, 12]
  lb44_0 (kBlk 1 (kBlk 0 (kSeq (some [6]) (fun s K => Jn Γ shp n2 j44_2 s K) (finK (Sh.owns (shp 44)) (SFunc.results sf44) 0)))))
noncomputable def q46_1 (Γ : SemL) (n1 : Nat) (n2 : Nat) (x0 : Int) (x1 : Int) (x2 : Int) (x3 : Int) (r4 : List (List D)) : Option Out := Jn Γ shp n1 j46_1 (St.mk [(1, V.one (X.d (D.int
  IntKind.i64 x0))), (2, V.one (X.ptr 0 0)), (5, V.one (X.d (D.int IntKind.i64 x1))), (7, V.one (X.d (D.int IntKind.i64 x2)))] [(0, Blk.mk [Lf.int IntKind.i64, Lf.lst 2] [X.d (D.int
  IntKind.i64 x3), X.d (D.list 2 r4)])] [] 1 0 0) (kLoop (loopK Γ shp n1) [1, 2, 5, 7] lb46_0 (kBlk 0 (kSeq (some []) (fun s K => Jn Γ shp n2 j46_3 s K) (finK (Sh.owns (shp 46))
  (SFunc.results sf46) 0))))
noncomputable def q46_3 (Γ : SemL) (n1 : Nat) : Option Out := Jn Γ shp n1 j46_3 (St.mk [] [] [] 0 0 0) (finK (Sh.owns (shp 46)) (SFunc.results sf46) 0)
noncomputable def q47_1 (Γ : SemL) (n1 : Nat) (n2 : Nat) (r0 : List (List D)) (r1 : List (List D)) (x2 : Int) (x3 : Int) : Option Out := Jn Γ shp n1 j47_1 (St.mk [(1, V.one (X.d (D.list 2
  r0))), (2, V.one (X.fn 18 [])), (15, V.one (X.d (D.list 2 r1))), (16, V.one (X.d (D.int IntKind.i64 x2))), (17, V.one (X.d (D.int IntKind.i64 x3)))] [] [] 0 0 0) (kLoop (loopK Γ shp n1) [1,
  2, 15, 16, 17] lb47_0 (kBlk 0 (kSeq (some []) (fun s K => Jn Γ shp n2 j47_3 s K) (finK (Sh.owns (shp 47)) (SFunc.results sf47) 0))))
noncomputable def q47_3 (Γ : SemL) (n1 : Nat) : Option Out := Jn Γ shp n1 j47_3 (St.mk [] [] [] 0 0 0) (finK (Sh.owns (shp 47)) (SFunc.results sf47) 0)
noncomputable def q19_2 (Γ : SemL) (n1 : Nat) (n2 : Nat) (x0 : Int) (x1 : Int) (r2 : List (List D)) (x3 : Int) (r4 : List (List D)) : Option Out := Jn Γ shp n1 j19_2 (St.mk [(2, V.one (X.ptr
  0 0)), (3, V.one (X.ptr 1 0)), (5, V.one (X.d (D.int IntKind.i64 x0)))] [(0, Blk.mk [Lf.int IntKind.i64, Lf.lst 2] [X.d (D.int IntKind.i64 x1), X.d (D.list 2 r2)]), (1, Blk.mk [Lf.int
  IntKind.i64, Lf.lst 2] [X.d (D.int IntKind.i64 x3), X.d (D.list 2 r4)])] [] 2 0 0) (kLoop (loopK Γ shp n1) [2, 3, 5] lb19_0 (kBlk 0 (kSeq (some []) (fun s K => Jn Γ shp n2 j19_3 s K) (finK
  (Sh.owns (shp 19)) (SFunc.results sf19) 0))))
noncomputable def l20_0_v1 (n0 : Nat) (Γ : SemL) (n2 : Nat) (r0 : List (List D)) (r1 : List (List D)) (x2 : Int) (x3 : Int) (x4 : Int) (r5 : List (List D)) : Option Out := loopK Γ shp n0 [1,
  3, 8, 9, 10] lb20_0 (St.mk [(1, V.one (X.ptr 0 0)), (3, V.one (X.own 0 9 1 r0)), (8, V.one (X.d (D.list 2 r1))), (9, V.one (X.d (D.int IntKind.i64 x2))), (10, V.one (X.d (D.int IntKind.i64
  x3)))] [(0, Blk.mk [Lf.int IntKind.i64, Lf.lst 2] [X.d (D.int IntKind.i64 x4), X.d (D.list 2 r5)])] [0] 1 1 0) (kBlk 0 (kSeq (some [1, 3]) (fun s K => Jn Γ shp n2 j20_2 s K) (finK (Sh.owns
  (shp 20)) (SFunc.results sf20) 0)))
noncomputable def l21_0_v1 (n0 : Nat) (Γ : SemL) (n2 : Nat) (r0 : List (List D)) (x1 : Int) (x2 : Int) (r3 : List (List D)) : Option Out := loopK Γ shp n0 [1, 3, 4] lb21_0 (St.mk [(1, V.one
  (X.ptr 0 0)), (3, V.one (X.own 0 9 1 r0)), (4, V.one (X.d (D.int IntKind.i64 x1)))] [(0, Blk.mk [Lf.int IntKind.i64, Lf.lst 2] [X.d (D.int IntKind.i64 x2), X.d (D.list 2 r3)])] [0] 1 1 0)
  (kBlk 0 (kSeq (some [1, 3]) (fun s K => Jn Γ shp n2 j21_2 s K) (finK (Sh.owns (shp 21)) (SFunc.results sf21) 0)))
noncomputable def l49_0 (n0 : Nat) (Γ : SemL) (n2 : Nat) (s0 : ByteArray) (x1 : Int) : Option Out := loopK Γ shp n0 [0, 3, 4] lb49_0 (St.mk [(0, V.one (X.nilL 1)), (3, V.one (X.d (D.str
  s0))), (4, V.one (X.d (D.int IntKind.i64 x1)))] [] [] 0 0 0) (kBlk 0 (kSeq (some [3]) (fun s K => Jn Γ shp n2 j49_3 s K) (finK (Sh.owns (shp 49)) (SFunc.results sf49) 0)))
noncomputable def q22_2 (Γ : SemL) (n1 : Nat) (n2 : Nat) (x0 : Int) (x1 : Int) (r2 : List (List D)) (x3 : Int) (r4 : List (List D)) : Option Out := Jn Γ shp n1 j22_2 (St.mk [(2, V.one (X.ptr
  0 0)), (3, V.one (X.ptr 1 0)), (5, V.one (X.d (D.int IntKind.i64 x0)))] [(0, Blk.mk [Lf.int IntKind.i64, Lf.lst 2] [X.d (D.int IntKind.i64 x1), X.d (D.list 2 r2)]), (1, Blk.mk [Lf.int
  IntKind.i64, Lf.lst 2] [X.d (D.int IntKind.i64 x3), X.d (D.list 2 r4)])] [] 2 0 0) (kLoop (loopK Γ shp n1) [2, 3, 5] lb22_0 (kBlk 0 (kSeq (some []) (fun s K => Jn Γ shp n2 j22_3 s K) (finK
  (Sh.owns (shp 22)) (SFunc.results sf22) 0))))
noncomputable def e67 (Γ : SemL) (n1 : Nat) (r0 : List (List D)) (x1 : Int) : Option Out := runF Γ shp (Sh.owns (shp 67)) sf67 n1 [V.one (X.d (D.list 2 r0)), V.one (X.fn 68 [X.ptr 0 0])]
  [([Lf.int IntKind.i64], [D.int IntKind.i64 x1])]
noncomputable def e22_v2 (Γ : SemL) (n1 : Nat) (x0 : Int) (r1 : List (List D)) : Option Out := runF Γ shp (Sh.owns (shp 22)) sf22 n1 [V.agg [X.d (D.int IntKind.i64 x0), X.d (D.list 2 r1)],
  V.agg [X.d D.junk, X.d D.junk]] []
noncomputable def q22_2_v1 (Γ : SemL) (n1 : Nat) (n2 : Nat) (x0 : Int) (x1 : Int) (r2 : List (List D)) (x3 : Int) : Option Out := Jn Γ shp n1 j22_2 (St.mk [(2, V.one (X.ptr 0 0)), (3, V.one
  (X.ptr 1 0)), (5, V.one (X.d (D.int IntKind.i64 x0)))] [(0, Blk.mk [Lf.int IntKind.i64, Lf.lst 2] [X.d (D.int IntKind.i64 x1), X.d (D.list 2 r2)]), (1, Blk.mk [Lf.int IntKind.i64, Lf.lst 2]
  [X.d (D.int IntKind.i64 x3), X.nilL 2])] [] 2 0 0) (kLoop (loopK Γ shp n1) [2, 3, 5] lb22_0 (kBlk 0 (kSeq (some []) (fun s K => Jn Γ shp n2 j22_3 s K) (finK (Sh.owns (shp 22))
  (SFunc.results sf22) 0))))
noncomputable def e91 (Γ : SemL) (n1 : Nat) (s0 : ByteArray) (s1 : ByteArray) : Option Out := runF Γ shp (Sh.owns (shp 91)) sf91 n1 [V.one (X.d (D.str s0)), V.one (X.d (D.str s1))] []
noncomputable def q83_0 (Γ : SemL) (n1 : Nat) (s0 : ByteArray) (s1 : ByteArray) : Option Out := Jn Γ shp n1 j83_0 (St.mk [(0, V.one (X.d (D.str s0))), (1, V.one (X.d (D.str s1)))] [] [] 0 0
  0) (finK (Sh.owns (shp 83)) (SFunc.results sf83) 0)
noncomputable def q43_3 (Γ : SemL) (n1 : Nat) (x0 : Int) (x1 : Int) (s2 : ByteArray) (s3 : ByteArray) (b4 : Bool) (x5 : Int) : Option Out := Jn Γ shp n1 j43_3 (St.mk [(1, V.one (X.d (D.int
  IntKind.i64 x0))), (4, V.one (X.ptr 0 0)), (11, V.one (X.d (D.int IntKind.i64 x1))), (12, V.one (X.d (D.str s2))), (13, V.one (X.d (D.str s3))), (14, V.one (X.d (D.bool b4)))] [(0, Blk.mk
  [Lf.int IntKind.i64, Lf.lst 2] [X.d (D.int IntKind.i64 x5), X.nilL 2])] [] 1 0 0) (finK (Sh.owns (shp 43)) (SFunc.results sf43) 0)
noncomputable def l44_0_v1 (n0 : Nat) (Γ : SemL) (n2 : Nat) (s0 : ByteArray) (x1 : Int) (x2 : Int) (x3 : Int) (x4 : Int) (r5 : List (List D)) : Option Out := loopK Γ shp n0 [0, 1, 2, 6, 12]
  lb44_0 (St.mk [(0, V.one (X.d (D.str s0))), (1, V.one (X.d (D.int IntKind.i64 x1))), (2, V.one (X.d (D.int IntKind.i64 x2))), (6, V.one (X.ptr 0 0)), (12, V.one (X.ptr 1 0))] [(0, Blk.mk
  [Lf.int IntKind.i64, Lf.lst 2] [X.d (D.int IntKind.i64 x3), X.nilL 2]), (1, Blk.mk [Lf.int IntKind.i64, Lf.lst 2] [X.d (D.int IntKind.i64 x4), X.own 0 24 2 r5])] [0] 2 1 0) (kBlk 1 (kBlk 0
  (kSeq (some [6]) (fun s K => Jn Γ shp n2 j44_2 s K) (finK (Sh.owns (shp 44)) (SFunc.results sf44) 0))))
noncomputable def q46_2 (Γ : SemL) (n1 : Nat) (n2 : Nat) (x0 : Int) (x1 : Int) (x2 : Int) (x3 : Int) (r4 : List (List D)) : Option Out := Jn Γ shp n1 j46_2 (St.mk [(1, V.one (X.d (D.int
  IntKind.i64 x0))), (2, V.one (X.ptr 0 0)), (5, V.one (X.d (D.int IntKind.i64 x1))), (7, V.one (X.d (D.int IntKind.i64 x2)))] [(0, Blk.mk [Lf.int IntKind.i64, Lf.lst 2] [X.d (D.int
  IntKind.i64 x3), X.d (D.list 2 r4)])] [] 1 0 0) (kLoop (loopK Γ shp n1) [1, 2, 5, 7] lb46_0 (kBlk 0 (kSeq (some []) (fun s K => Jn Γ shp n2 j46_3 s K) (finK (Sh.owns (shp 46))
  (SFunc.results sf46) 0))))
noncomputable def q47_2 (Γ : SemL) (n1 : Nat) (n2 : Nat) (r0 : List (List D)) (r1 : List (List D)) (x2 : Int) (x3 : Int) : Option Out := Jn Γ shp n1 j47_2 (St.mk [(1, V.one (X.d (D.list 2
  r0))), (2, V.one (X.fn 18 [])), (15, V.one (X.d (D.list 2 r1))), (16, V.one (X.d (D.int IntKind.i64 x2))), (17, V.one (X.d (D.int IntKind.i64 x3)))] [] [] 0 0 0) (kLoop (loopK Γ shp n1) [1,
  2, 15, 16, 17] lb47_0 (kBlk 0 (kSeq (some []) (fun s K => Jn Γ shp n2 j47_3 s K) (finK (Sh.owns (shp 47)) (SFunc.results sf47) 0))))
noncomputable def q20_0_v1 (Γ : SemL) (n1 : Nat) (n2 : Nat) (r0 : List (List D)) (r1 : List (List D)) (x2 : Int) (x3 : Int) (x4 : Int) (r5 : List (List D)) : Option Out := Jn Γ shp n1 j20_0
  (St.mk [(1, V.one (X.ptr 0 0)), (3, V.one (X.own 0 9 1 r0)), (8, V.one (X.d (D.list 2 r1))), (9, V.one (X.d (D.int IntKind.i64 x2))), (10, V.one (X.d (D.int IntKind.i64 x3)))] [(0, Blk.mk
  [Lf.int IntKind.i64, Lf.lst 2] [X.d (D.int IntKind.i64 x4), X.d (D.list 2 r5)])] [0] 1 1 0) (kLoop (loopK Γ shp n1) [1, 3, 8, 9, 10] lb20_0 (kBlk 0 (kSeq (some [1, 3]) (fun s K => Jn Γ shp
  n2 j20_2 s K) (finK (Sh.owns (shp 20)) (SFunc.results sf20) 0))))
noncomputable def q20_2_v1 (Γ : SemL) (n1 : Nat) (r0 : List (List D)) (x1 : Int) (r2 : List (List D)) : Option Out := Jn Γ shp n1 j20_2 (St.mk [(1, V.one (X.ptr 0 0)), (3, V.one (X.own 0 9 1
  r0))] [(0, Blk.mk [Lf.int IntKind.i64, Lf.lst 2] [X.d (D.int IntKind.i64 x1), X.d (D.list 2 r2)])] [0] 1 1 0) (finK (Sh.owns (shp 20)) (SFunc.results sf20) 0)
noncomputable def q21_0_v1 (Γ : SemL) (n1 : Nat) (n2 : Nat) (r0 : List (List D)) (x1 : Int) (x2 : Int) (r3 : List (List D)) : Option Out := Jn Γ shp n1 j21_0 (St.mk [(1, V.one (X.ptr 0 0)),
  (3, V.one (X.own 0 9 1 r0)), (4, V.one (X.d (D.int IntKind.i64 x1)))] [(0, Blk.mk [Lf.int IntKind.i64, Lf.lst 2] [X.d (D.int IntKind.i64 x2), X.d (D.list 2 r3)])] [0] 1 1 0) (kLoop (loopK Γ
  shp n1) [1, 3, 4] lb21_0 (kBlk 0 (kSeq (some [1, 3]) (fun s K => Jn Γ shp n2 j21_2 s K) (finK (Sh.owns (shp 21)) (SFunc.results sf21) 0))))
noncomputable def q21_2_v1 (Γ : SemL) (n1 : Nat) (r0 : List (List D)) (x1 : Int) (r2 : List (List D)) : Option Out := Jn Γ shp n1 j21_2 (St.mk [(1, V.one (X.ptr 0 0)), (3, V.one (X.own 0 9 1
  r0))] [(0, Blk.mk [Lf.int IntKind.i64, Lf.lst 2] [X.d (D.int IntKind.i64 x1), X.d (D.list 2 r2)])] [0] 1 1 0) (finK (Sh.owns (shp 21)) (SFunc.results sf21) 0)
noncomputable def q49_0 (Γ : SemL) (n1 : Nat) (n2 : Nat) (s0 : ByteArray) (x1 : Int) : Option Out := Jn Γ shp n1 j49_0 (St.mk [(0, V.one (X.nilL 1)), (3, V.one (X.d (D.str s0))), (4, V.one
  (X.d (D.int IntKind.i64 x1)))] [] [] 0 0 0) (kLoop (loopK Γ shp n1) [0, 3, 4] lb49_0 (kBlk 0 (kSeq (some [3]) (fun s K => Jn Γ shp n2 j49_3 s K) (finK (Sh.owns (shp 49)) (SFunc.results
  sf49) 0))))
noncomputable def q49_3 (Γ : SemL) (n1 : Nat) (s0 : ByteArray) : Option Out := Jn Γ shp n1 j49_3 (St.mk [(3, V.one (X.d (D.str s0)))] [] [] 0 0 0) (finK (Sh.owns (shp 49)) (SFunc.results
  sf49) 0)
noncomputable def e84 (Γ : SemL) (n1 : Nat) (r0 : List (List D)) (x1 : Int) : Option Out := runF Γ shp (Sh.owns (shp 84)) sf84 n1 [V.one (X.d (D.list 2 r0)), V.one (X.fn 68 [X.ptr 0 0])]
  [([Lf.int IntKind.i64], [D.int IntKind.i64 x1])]
noncomputable def l43_0 (n0 : Nat) (Γ : SemL) (n2 : Nat) (x0 : Int) (s1 : ByteArray) (s2 : ByteArray) (b3 : Bool) (x4 : Int) (x5 : Int) : Option Out := loopK Γ shp n0 [1, 4, 12, 13, 14, 15]
  lb43_0 (St.mk [(1, V.one (X.d (D.int IntKind.i64 x0))), (4, V.one (X.ptr 0 0)), (12, V.one (X.d (D.str s1))), (13, V.one (X.d (D.str s2))), (14, V.one (X.d (D.bool b3))), (15, V.one (X.ptr
  1 0))] [(0, Blk.mk [Lf.int IntKind.i64, Lf.lst 2] [X.d (D.int IntKind.i64 x4), X.nilL 2]), (1, Blk.mk [Lf.int IntKind.i64, Lf.lst 2] [X.d (D.int IntKind.i64 x5), X.nilL 2])] [] 2 0 0) (kBlk
  0 (kSeq (some [4]) (fun s K => Jn Γ shp n2 j43_7 s K) (finK (Sh.owns (shp 43)) (SFunc.results sf43) 0)))
noncomputable def q44_0_v1 (Γ : SemL) (n1 : Nat) (n2 : Nat) (s0 : ByteArray) (x1 : Int) (x2 : Int) (x3 : Int) (x4 : Int) (r5 : List (List D)) (x6 : Int) (r7 : List (List D)) : Option Out :=
  Jn Γ shp n1 j44_0 (St.mk [(0, V.one (X.d (D.str s0))), (2, V.one (X.d (D.int IntKind.i64 x1))), (6, V.one (X.ptr 0 0)), (12, V.one (X.ptr 1 0)), (13, V.one (X.ptr 2 0)), (14, V.one (X.d
  (D.int IntKind.i64 x2)))] [(0, Blk.mk [Lf.int IntKind.i64, Lf.lst 2] [X.d (D.int IntKind.i64 x3), X.nilL 2]), (1, Blk.mk [Lf.int IntKind.i64, Lf.lst 2] [X.d (D.int IntKind.i64 x4), X.own 0
  24 2 r5]), (2, Blk.mk [Lf.int IntKind.i64, Lf.lst 2] [X.d (D.int IntKind.i64 x6), X.d (D.list 2 r7)])] [0] 3 1 0) (kBlk 2 (kSeq (some [0, 1, 2, 6, 12]) (fun s K => Jn Γ shp n1 j44_1 s K)
  (kLoop (loopK Γ shp n1) [0, 1, 2, 6, 12] lb44_0 (kBlk 1 (kBlk 0 (kSeq (some [6]) (fun s K => Jn Γ shp n2 j44_2 s K) (finK (Sh.owns (shp 44)) (SFunc.results sf44) 0)))))))
noncomputable def e49_v1 (Γ : SemL) (n1 : Nat) (r0 : List (List D)) : Option Out := runF Γ shp (Sh.owns (shp 49)) sf49 n1 [V.one (X.d (D.list 1 r0))] []
noncomputable def q49_1 (Γ : SemL) (n1 : Nat) (n2 : Nat) (s0 : ByteArray) (x1 : Int) : Option Out := Jn Γ shp n1 j49_1 (St.mk [(0, V.one (X.nilL 1)), (3, V.one (X.d (D.str s0))), (4, V.one
  (X.d (D.int IntKind.i64 x1)))] [] [] 0 0 0) (kBlk 1 (kSeq (some [0, 3, 4]) (fun s K => Jn Γ shp n1 j49_2 s K) (kLoop (loopK Γ shp n1) [0, 3, 4] lb49_0 (kBlk 0 (kSeq (some [3]) (fun s K =>
  Jn Γ shp n2 j49_3 s K) (finK (Sh.owns (shp 49)) (SFunc.results sf49) 0))))))
noncomputable def l84_0 (n0 : Nat) (Γ : SemL) (n2 : Nat) (z3 : Int) (r0 : List (List D)) (x1 : Int) (x2 : Int) (x3 : Int) : Option Out := loopK Γ shp n0 [0, 1, 7, 8] lb84_0 (St.mk [(0, V.one
  (X.d (D.list 2 r0))), (1, V.one (X.fn 68 [X.ptr 0 0])), (7, V.one (X.d (D.int IntKind.i64 x1))), (8, V.one (X.d (D.int IntKind.i64 x2)))] [(0, Blk.mk [Lf.int IntKind.i64] [X.d (D.int
  IntKind.i64 x3)])] [] 1 0 1) (kBlk 0 (kSeq (some []) (fun s K => Jn Γ shp n2 j84_2 s K) (finK (Sh.owns (shp 84)) (SFunc.results sf84) (List.length [([Lf.int IntKind.i64], [D.int IntKind.i64
  z3])]))))
noncomputable def q43_4 (Γ : SemL) (n1 : Nat) (n2 : Nat) (x0 : Int) (s1 : ByteArray) (s2 : ByteArray) (x3 : Int) (x4 : Int) : Option Out := Jn Γ shp n1 j43_4 (St.mk [(1, V.one (X.d (D.int
  IntKind.i64 x0))), (4, V.one (X.ptr 0 0)), (12, V.one (X.d (D.str s1))), (13, V.one (X.d (D.str s2))), (15, V.one (X.ptr 1 0))] [(0, Blk.mk [Lf.int IntKind.i64, Lf.lst 2] [X.d (D.int
  IntKind.i64 x3), X.nilL 2]), (1, Blk.mk [Lf.int IntKind.i64, Lf.lst 2] [X.d (D.int IntKind.i64 x4), X.nilL 2])] [] 2 0 0) (kLoop (loopK Γ shp n1) [1, 4, 12, 13, 14, 15] lb43_0 (kBlk 0 (kSeq
  (some [4]) (fun s K => Jn Γ shp n2 j43_7 s K) (finK (Sh.owns (shp 43)) (SFunc.results sf43) 0))))
noncomputable def q43_7 (Γ : SemL) (n1 : Nat) (x0 : Int) : Option Out := Jn Γ shp n1 j43_7 (St.mk [(4, V.one (X.ptr 0 0))] [(0, Blk.mk [Lf.int IntKind.i64, Lf.lst 2] [X.d (D.int IntKind.i64
  x0), X.nilL 2])] [] 1 0 0) (finK (Sh.owns (shp 43)) (SFunc.results sf43) 0)
noncomputable def l49_0_v1 (n0 : Nat) (Γ : SemL) (n2 : Nat) (r0 : List (List D)) (s1 : ByteArray) (x2 : Int) : Option Out := loopK Γ shp n0 [0, 3, 4] lb49_0 (St.mk [(0, V.one (X.d (D.list 1
  r0))), (3, V.one (X.d (D.str s1))), (4, V.one (X.d (D.int IntKind.i64 x2)))] [] [] 0 0 0) (kBlk 0 (kSeq (some [3]) (fun s K => Jn Γ shp n2 j49_3 s K) (finK (Sh.owns (shp 49)) (SFunc.results
  sf49) 0)))
noncomputable def q84_0 (Γ : SemL) (n1 : Nat) (n2 : Nat) (z3 : Int) (r0 : List (List D)) (x1 : Int) (x2 : Int) (x3 : Int) : Option Out := Jn Γ shp n1 j84_0 (St.mk [(0, V.one (X.d (D.list 2
  r0))), (1, V.one (X.fn 68 [X.ptr 0 0])), (7, V.one (X.d (D.int IntKind.i64 x1))), (8, V.one (X.d (D.int IntKind.i64 x2)))] [(0, Blk.mk [Lf.int IntKind.i64] [X.d (D.int IntKind.i64 x3)])] []
  1 0 1) (kLoop (loopK Γ shp n1) [0, 1, 7, 8] lb84_0 (kBlk 0 (kSeq (some []) (fun s K => Jn Γ shp n2 j84_2 s K) (finK (Sh.owns (shp 84)) (SFunc.results sf84) (List.length [([Lf.int
  IntKind.i64], [D.int IntKind.i64 z3])])))))
noncomputable def q84_2 (Γ : SemL) (n1 : Nat) (z2 : Int) (x0 : Int) : Option Out := Jn Γ shp n1 j84_2 (St.mk [] [(0, Blk.mk [Lf.int IntKind.i64] [X.d (D.int IntKind.i64 x0)])] [] 1 0 1) (finK
  (Sh.owns (shp 84)) (SFunc.results sf84) (List.length [([Lf.int IntKind.i64], [D.int IntKind.i64 z2])]))
noncomputable def q43_5 (Γ : SemL) (n1 : Nat) (n2 : Nat) (x0 : Int) (s1 : ByteArray) (s2 : ByteArray) (x3 : Int) (x4 : Int) (x5 : Int) (r6 : List (List D)) : Option Out := Jn Γ shp n1 j43_5
  (St.mk [(1, V.one (X.d (D.int IntKind.i64 x0))), (4, V.one (X.ptr 0 0)), (12, V.one (X.d (D.str s1))), (13, V.one (X.d (D.str s2))), (15, V.one (X.ptr 1 0)), (16, V.one (X.ptr 2 0))] [(0,
  Blk.mk [Lf.int IntKind.i64, Lf.lst 2] [X.d (D.int IntKind.i64 x3), X.nilL 2]), (1, Blk.mk [Lf.int IntKind.i64, Lf.lst 2] [X.d (D.int IntKind.i64 x4), X.nilL 2]), (2, Blk.mk [Lf.int
  IntKind.i64, Lf.lst 2] [X.d (D.int IntKind.i64 x5), X.d (D.list 2 r6)])] [] 3 0 0) (kBlk 1 (kLoop (loopK Γ shp n1) [1, 4, 12, 13, 14, 15] lb43_0 (kBlk 0 (kSeq (some [4]) (fun s K => Jn Γ
  shp n2 j43_7 s K) (finK (Sh.owns (shp 43)) (SFunc.results sf43) 0)))))
noncomputable def q49_0_v1 (Γ : SemL) (n1 : Nat) (n2 : Nat) (r0 : List (List D)) (s1 : ByteArray) (x2 : Int) : Option Out := Jn Γ shp n1 j49_0 (St.mk [(0, V.one (X.d (D.list 1 r0))), (3,
  V.one (X.d (D.str s1))), (4, V.one (X.d (D.int IntKind.i64 x2)))] [] [] 0 0 0) (kLoop (loopK Γ shp n1) [0, 3, 4] lb49_0 (kBlk 0 (kSeq (some [3]) (fun s K => Jn Γ shp n2 j49_3 s K) (finK
  (Sh.owns (shp 49)) (SFunc.results sf49) 0))))
noncomputable def e68 (Γ : SemL) (n1 : Nat) (x0 : Int) (r1 : List (List D)) (x2 : Int) : Option Out := runF Γ shp (Sh.owns (shp 68)) sf68 n1 [V.agg [X.d (D.int IntKind.i64 x0), X.d (D.list 2
  r1)], V.one (X.ptr 0 0)] [([Lf.int IntKind.i64], [D.int IntKind.i64 x2])]
noncomputable def q84_1 (Γ : SemL) (n1 : Nat) (n2 : Nat) (z3 : Int) (r0 : List (List D)) (x1 : Int) (x2 : Int) (x3 : Int) : Option Out := Jn Γ shp n1 j84_1 (St.mk [(0, V.one (X.d (D.list 2
  r0))), (1, V.one (X.fn 68 [X.ptr 0 0])), (7, V.one (X.d (D.int IntKind.i64 x1))), (8, V.one (X.d (D.int IntKind.i64 x2)))] [(0, Blk.mk [Lf.int IntKind.i64] [X.d (D.int IntKind.i64 x3)])] []
  1 0 1) (kLoop (loopK Γ shp n1) [0, 1, 7, 8] lb84_0 (kBlk 0 (kSeq (some []) (fun s K => Jn Γ shp n2 j84_2 s K) (finK (Sh.owns (shp 84)) (SFunc.results sf84) (List.length [([Lf.int
  IntKind.i64], [D.int IntKind.i64 z3])])))))
noncomputable def q43_6 (Γ : SemL) (n1 : Nat) (n2 : Nat) (x0 : Int) (s1 : ByteArray) (s2 : ByteArray) (x3 : Int) (x4 : Int) (r5 : List (List D)) : Option Out := Jn Γ shp n1 j43_6 (St.mk [(1,
  V.one (X.d (D.int IntKind.i64 x0))), (4, V.one (X.ptr 0 0)), (12, V.one (X.d (D.str s1))), (13, V.one (X.d (D.str s2))), (15, V.one (X.ptr 1 0))] [(0, Blk.mk [Lf.int IntKind.i64, Lf.lst 2]
  [X.d (D.int IntKind.i64 x3), X.nilL 2]), (1, Blk.mk [Lf.int IntKind.i64, Lf.lst 2] [X.d (D.int IntKind.i64 x4), X.own 0 24 2 r5])] [0] 2 1 0) (kBlk 1 (kLoop (loopK Γ shp n1) [1, 4, 12, 13,
  14, 15] lb43_0 (kBlk 0 (kSeq (some [4]) (fun s K => Jn Γ shp n2 j43_7 s K) (finK (Sh.owns (shp 43)) (SFunc.results sf43) 0)))))
noncomputable def q49_1_v1 (Γ : SemL) (n1 : Nat) (n2 : Nat) (r0 : List (List D)) (s1 : ByteArray) (x2 : Int) : Option Out := Jn Γ shp n1 j49_1 (St.mk [(0, V.one (X.d (D.list 1 r0))), (3,
  V.one (X.d (D.str s1))), (4, V.one (X.d (D.int IntKind.i64 x2)))] [] [] 0 0 0) (kBlk 1 (kSeq (some [0, 3, 4]) (fun s K => Jn Γ shp n1 j49_2 s K) (kLoop (loopK Γ shp n1) [0, 3, 4] lb49_0
  (kBlk 0 (kSeq (some [3]) (fun s K => Jn Γ shp n2 j49_3 s K) (finK (Sh.owns (shp 49)) (SFunc.results sf49) 0))))))
noncomputable def l43_0_v1 (n0 : Nat) (Γ : SemL) (n2 : Nat) (x0 : Int) (s1 : ByteArray) (s2 : ByteArray) (b3 : Bool) (x4 : Int) (x5 : Int) (r6 : List (List D)) : Option Out := loopK Γ shp n0
  [1, 4, 12, 13, 14, 15] lb43_0 (St.mk [(1, V.one (X.d (D.int IntKind.i64 x0))), (4, V.one (X.ptr 0 0)), (12, V.one (X.d (D.str s1))), (13, V.one (X.d (D.str s2))), (14, V.one (X.d (D.bool
  b3))), (15, V.one (X.ptr 1 0))] [(0, Blk.mk [Lf.int IntKind.i64, Lf.lst 2] [X.d (D.int IntKind.i64 x4), X.nilL 2]), (1, Blk.mk [Lf.int IntKind.i64, Lf.lst 2] [X.d (D.int IntKind.i64 x5),
  X.own 0 24 2 r6])] [0] 2 1 0) (kBlk 0 (kSeq (some [4]) (fun s K => Jn Γ shp n2 j43_7 s K) (finK (Sh.owns (shp 43)) (SFunc.results sf43) 0)))
noncomputable def q49_2 (Γ : SemL) (n1 : Nat) (n2 : Nat) (r0 : List (List D)) (s1 : ByteArray) (x2 : Int) : Option Out := Jn Γ shp n1 j49_2 (St.mk [(0, V.one (X.d (D.list 1 r0))), (3, V.one
  (X.d (D.str s1))), (4, V.one (X.d (D.int IntKind.i64 x2)))] [] [] 0 0 0) (kLoop (loopK Γ shp n1) [0, 3, 4] lb49_0 (kBlk 0 (kSeq (some [3]) (fun s K => Jn Γ shp n2 j49_3 s K) (finK (Sh.owns
  (shp 49)) (SFunc.results sf49) 0))))
noncomputable def q43_4_v1 (Γ : SemL) (n1 : Nat) (n2 : Nat) (x0 : Int) (s1 : ByteArray) (s2 : ByteArray) (x3 : Int) (x4 : Int) (r5 : List (List D)) : Option Out := Jn Γ shp n1 j43_4 (St.mk
  [(1, V.one (X.d (D.int IntKind.i64 x0))), (4, V.one (X.ptr 0 0)), (12, V.one (X.d (D.str s1))), (13, V.one (X.d (D.str s2))), (15, V.one (X.ptr 1 0))] [(0, Blk.mk [Lf.int IntKind.i64,
  Lf.lst 2] [X.d (D.int IntKind.i64 x3), X.nilL 2]), (1, Blk.mk [Lf.int IntKind.i64, Lf.lst 2] [X.d (D.int IntKind.i64 x4), X.own 0 24 2 r5])] [0] 2 1 0) (kLoop (loopK Γ shp n1) [1, 4, 12,
  13, 14, 15] lb43_0 (kBlk 0 (kSeq (some [4]) (fun s K => Jn Γ shp n2 j43_7 s K) (finK (Sh.owns (shp 43)) (SFunc.results sf43) 0))))
noncomputable def q43_5_v1 (Γ : SemL) (n1 : Nat) (n2 : Nat) (x0 : Int) (s1 : ByteArray) (s2 : ByteArray) (x3 : Int) (x4 : Int) (r5 : List (List D)) (x6 : Int) (r7 : List (List D)) : Option
  Out := Jn Γ shp n1 j43_5 (St.mk [(1, V.one (X.d (D.int IntKind.i64 x0))), (4, V.one (X.ptr 0 0)), (12, V.one (X.d (D.str s1))), (13, V.one (X.d (D.str s2))), (15, V.one (X.ptr 1 0)), (16,
  V.one (X.ptr 2 0))] [(0, Blk.mk [Lf.int IntKind.i64, Lf.lst 2] [X.d (D.int IntKind.i64 x3), X.nilL 2]), (1, Blk.mk [Lf.int IntKind.i64, Lf.lst 2] [X.d (D.int IntKind.i64 x4), X.own 0 24 2
  r5]), (2, Blk.mk [Lf.int IntKind.i64, Lf.lst 2] [X.d (D.int IntKind.i64 x6), X.d (D.list 2 r7)])] [0] 3 1 0) (kBlk 1 (kLoop (loopK Γ shp n1) [1, 4, 12, 13, 14, 15] lb43_0 (kBlk 0 (kSeq
  (some [4]) (fun s K => Jn Γ shp n2 j43_7 s K) (finK (Sh.owns (shp 43)) (SFunc.results sf43) 0)))))
theorem e16_eq (Γ : SemL) (n1 : Nat) (x0 : Int) (r1 : List (List D)) : e16 Γ n1 x0 r1 = r_oB (Γ 45 [V.agg [X.d (D.int IntKind.i64 x0), X.d (D.list 2 r1)], V.one (X.d (D.int IntKind.i64 40))]
  []) [] fun c1_ => some (Out.mk true (V.one (X.d (D.bool c1_))) D.junk [] 0) := (run_step ..).trans (by kernel_rfl)
theorem e14_eq (Γ : SemL) (n1 : Nat) (s0 : ByteArray) : e14 Γ n1 s0 = r_t3a2IL2oSoB (Γ 43 [V.one (X.d (D.str s0)), V.one (X.d (D.int IntKind.i64 40))] []) [] fun i2_ w3_ u4_ c5_ => bif !c5_
  then some (Out.mk true (V.tup [V.agg [X.d (D.int IntKind.i64 0), X.d (D.list 2 [])], V.one (X.d (D.int IntKind.i64 33))]) D.junk [] 0) else bif !beqL (Array.toList (ByteArray.data u4_))
  (Array.toList (ByteArray.data (ByteArray.mk #[]))) then some (Out.mk true (V.tup [V.agg [X.d (D.int IntKind.i64 0), X.d (D.list 2 [])], V.one (X.d (D.int IntKind.i64 33))]) D.junk [] 0)
  else r_oB (Γ 16 [V.agg [X.d (D.int IntKind.i64 i2_), X.d (D.list 2 w3_)]] []) [] fun c1_ => bif !c1_ then some (Out.mk true (V.tup [V.agg [X.d (D.int IntKind.i64 0), X.d (D.list 2 [])],
  V.one (X.d (D.int IntKind.i64 33))]) D.junk [] 0) else q14_0 Γ n1 0 i2_ w3_ := (run_step ..).trans (by kernel_rfl)
theorem e15_eq (Γ : SemL) (n1 : Nat) (s0 : ByteArray) : e15 Γ n1 s0 = r_t3a2IL2oIoB (Γ 44 [V.one (X.d (D.str s0)), V.one (X.d (D.int IntKind.i64 0)), V.one (X.d (D.int IntKind.i64 1))] []) []
  fun i1_ w2_ i3_ c4_ => bif !c4_ then some (Out.mk true (V.tup [V.agg [X.d (D.int IntKind.i64 0), X.d (D.list 2 [])], V.one (X.d (D.int IntKind.i64 33))]) D.junk [] 0) else bif i3_ !=
  Int.ofNat (ByteArray.size s0) then some (Out.mk true (V.tup [V.agg [X.d (D.int IntKind.i64 0), X.d (D.list 2 [])], V.one (X.d (D.int IntKind.i64 33))]) D.junk [] 0) else q15_0 Γ n1 0 i1_
  w2_ := (run_step ..).trans (by kernel_rfl)
theorem e17_eq (Γ : SemL) (n1 : Nat) (x0 : Int) (r1 : List (List D)) : e17 Γ n1 x0 r1 = r_oB (Γ 46 [V.agg [X.d (D.int IntKind.i64 x0), X.d (D.list 2 r1)], V.one (X.d (D.int IntKind.i64 1))]
  []) [] fun c1_ => some (Out.mk true (V.one (X.d (D.bool c1_))) D.junk [] 0) := (run_step ..).trans (by kernel_rfl)
theorem e18_eq (Γ : SemL) (n1 : Nat) (x0 : Int) (r1 : List (List D)) (x2 : Int) (r3 : List (List D)) : e18 Γ n1 x0 r1 x2 r3 = bif x0 == x2 then r_oB (Γ 47 [V.one (X.d (D.list 2 r1)), V.one
  (X.d (D.list 2 r3)), V.one (X.fn 18 [])] []) [] fun c1_ => some (Out.mk true (V.one (X.d (D.bool c1_))) D.junk [] 0) else some (Out.mk true (V.one (X.d (D.bool false))) D.junk [] 0) :=
  (run_step ..).trans (by kernel_rfl)
theorem e19_eq (Γ : SemL) (n1 : Nat) (x0 : Int) (r1 : List (List D)) (x2 : Int) (r3 : List (List D)) : e19 Γ n1 x0 r1 x2 r3 = bif x0 != x2 then some (Out.mk true (V.one (X.d (D.bool false)))
  D.junk [] 0) else bif Int.ofNat (List.length r1) != Int.ofNat (List.length r3) then some (Out.mk true (V.one (X.d (D.bool false))) D.junk [] 0) else q19_0 Γ n1 x0 r1 x2 r3 := (run_step
  ..).trans (by kernel_rfl)
theorem e20_eq (Γ : SemL) (n1 : Nat) (x0 : Int) (r1 : List (List D)) : e20 Γ n1 x0 r1 = l20_0 n1 Γ n1 r1 (Int.ofNat (List.length r1)) 0 x0 r1 := (run_step ..).trans (by kernel_rfl)
theorem e21_eq (Γ : SemL) (n1 : Nat) (x0 : Int) (r1 : List (List D)) : e21 Γ n1 x0 r1 = l21_0 n1 Γ n1 0 x0 r1 := (run_step ..).trans (by kernel_rfl)
theorem e22_eq (Γ : SemL) (n1 : Nat) (x0 : Int) (r1 : List (List D)) (x2 : Int) (r3 : List (List D)) : e22 Γ n1 x0 r1 x2 r3 = bif x0 != x2 then some (Out.mk true (V.one (X.d (D.bool false)))
  D.junk [] 0) else bif Int.ofNat (List.length r1) != Int.ofNat (List.length r3) then some (Out.mk true (V.one (X.d (D.bool false))) D.junk [] 0) else q22_0 Γ n1 x0 r1 x2 r3 := (run_step
  ..).trans (by kernel_rfl)
theorem e45_eq (Γ : SemL) (n1 : Nat) (x0 : Int) (r1 : List (List D)) (x2 : Int) : e45 Γ n1 x0 r1 x2 = bif decide (x2 < 1) then some (Out.mk true (V.one (X.d (D.bool false))) D.junk [] 0) else
  q45_0 Γ n1 x0 r1 x2 := (run_step ..).trans (by kernel_rfl)
theorem e22_v1_eq (Γ : SemL) (n1 : Nat) (x0 : Int) (r1 : List (List D)) (x2 : Int) : e22_v1 Γ n1 x0 r1 x2 = bif x0 != x2 then some (Out.mk true (V.one (X.d (D.bool false))) D.junk [] 0) else
  bif Int.ofNat (List.length r1) != Int.ofNat 0 then some (Out.mk true (V.one (X.d (D.bool false))) D.junk [] 0) else q22_0_v1 Γ n1 x0 r1 x2 := (run_step ..).trans (by kernel_rfl)
theorem e43_eq (Γ : SemL) (n1 : Nat) (s0 : ByteArray) (x1 : Int) : e43 Γ n1 s0 x1 = bif decide (x1 < 1) then some (Out.mk true (V.tup [V.agg [X.d (D.int IntKind.i64 0), X.d (D.list 2 [])],
  V.one (X.d (D.str (ByteArray.mk #[]))), V.one (X.d (D.bool false))]) D.junk [] 0) else q43_0 Γ n1 s0 x1 0 := (run_step ..).trans (by kernel_rfl)
theorem q14_0_eq (Γ : SemL) (n1 : Nat) (x0 : Int) (x1 : Int) (r2 : List (List D)) : q14_0 Γ n1 x0 x1 r2 = some (Out.mk true (V.tup [V.agg [X.d (D.int IntKind.i64 x1), X.d (D.list 2 r2)],
  V.one (X.d (D.int IntKind.i64 0))]) D.junk [] 0) := (Jn_step ..).trans (by kernel_rfl)
theorem e44_eq (Γ : SemL) (n1 : Nat) (s0 : ByteArray) (x1 : Int) (x2 : Int) : e44 Γ n1 s0 x1 x2 = bif decide (x2 > 40) then some (Out.mk true (V.tup [V.agg [X.d (D.int IntKind.i64 0), X.d
  (D.list 2 [])], V.one (X.d (D.int IntKind.i64 0)), V.one (X.d (D.bool false))]) D.junk [] 0) else r_oB (Γ 66 [V.one (X.d (D.str s0)), V.one (X.d (D.int IntKind.i64 x1)), V.one (X.d (D.str
  (ByteArray.mk #[98, 111, 111, 108])))] []) [] fun c9_ => bif c9_ then some (Out.mk true (V.tup [V.agg [X.d (D.int IntKind.i64 1), X.d (D.list 2 [])], V.one (X.d (D.int IntKind.i64
  (IntKind.wrap IntKind.i64 (x1 + 4)))), V.one (X.d (D.bool true))]) D.junk [] 0) else r_oB (Γ 66 [V.one (X.d (D.str s0)), V.one (X.d (D.int IntKind.i64 x1)), V.one (X.d (D.str (ByteArray.mk
  #[105, 110, 116])))] []) [] fun c8_ => bif c8_ then some (Out.mk true (V.tup [V.agg [X.d (D.int IntKind.i64 2), X.d (D.list 2 [])], V.one (X.d (D.int IntKind.i64 (IntKind.wrap IntKind.i64
  (x1 + 3)))), V.one (X.d (D.bool true))]) D.junk [] 0) else r_oB (Γ 66 [V.one (X.d (D.str s0)), V.one (X.d (D.int IntKind.i64 x1)), V.one (X.d (D.str (ByteArray.mk #[91])))] []) [] fun c7_
  => bif c7_ then r_t3a2IL2oIoB (Γ 44 [V.one (X.d (D.str s0)), V.one (X.d (D.int IntKind.i64 (IntKind.wrap IntKind.i64 (x1 + 1)))), V.one (X.d (D.int IntKind.i64 (IntKind.wrap IntKind.i64 (x2
  + 1))))] []) [] fun i2_ w3_ i4_ c5_ => bif c5_ then r_oB (Γ 66 [V.one (X.d (D.str s0)), V.one (X.d (D.int IntKind.i64 i4_)), V.one (X.d (D.str (ByteArray.mk #[93])))] []) [] fun c1_ => some
  (Out.mk true (V.tup [V.agg [X.d (D.int IntKind.i64 4), X.d (D.list 2 [[D.int IntKind.i64 i2_, D.list 2 w3_]])], V.one (X.d (D.int IntKind.i64 (IntKind.wrap IntKind.i64 (i4_ + 1)))), V.one
  (X.d (D.bool c1_))]) D.junk [] 0) else some (Out.mk true (V.tup [V.agg [X.d (D.int IntKind.i64 4), X.d (D.list 2 [[D.int IntKind.i64 i2_, D.list 2 w3_]])], V.one (X.d (D.int IntKind.i64
  (IntKind.wrap IntKind.i64 (i4_ + 1)))), V.one (X.d (D.bool false))]) D.junk [] 0) else r_oB (Γ 66 [V.one (X.d (D.str s0)), V.one (X.d (D.int IntKind.i64 x1)), V.one (X.d (D.str
  (ByteArray.mk #[40])))] []) [] fun c6_ => bif c6_ then l44_0 n1 Γ n1 s0 (IntKind.wrap IntKind.i64 (x1 + 1)) x2 0 3 else q44_2 Γ n1 0 := (run_step ..).trans (by kernel_rfl)
theorem q15_0_eq (Γ : SemL) (n1 : Nat) (x0 : Int) (x1 : Int) (r2 : List (List D)) : q15_0 Γ n1 x0 x1 r2 = some (Out.mk true (V.tup [V.agg [X.d (D.int IntKind.i64 x1), X.d (D.list 2 r2)],
  V.one (X.d (D.int IntKind.i64 0))]) D.junk [] 0) := (Jn_step ..).trans (by kernel_rfl)
theorem e46_eq (Γ : SemL) (n1 : Nat) (x0 : Int) (r1 : List (List D)) (x2 : Int) : e46 Γ n1 x0 r1 x2 = bif x0 == 1 then bif Int.ofNat (List.length r1) == 0 then bif decide (x2 > 40) then some
  (Out.mk true (V.one (X.d (D.bool false))) D.junk [] 0) else q46_0 Γ n1 x2 (Int.ofNat (List.length r1)) x0 r1 else bif x0 == 3 then bif decide (Int.ofNat (List.length r1) ≥ 2) then bif
  decide (Int.ofNat (List.length r1) ≤ 4) then bif decide (x2 > 40) then some (Out.mk true (V.one (X.d (D.bool false))) D.junk [] 0) else q46_0 Γ n1 x2 (Int.ofNat (List.length r1)) x0 r1 else
  bif x0 == 4 then bif !Int.ofNat (List.length r1) == 1 then some (Out.mk true (V.one (X.d (D.bool false))) D.junk [] 0) else bif decide (x2 > 40) then some (Out.mk true (V.one (X.d (D.bool
  false))) D.junk [] 0) else q46_0 Γ n1 x2 (Int.ofNat (List.length r1)) x0 r1 else some (Out.mk true (V.one (X.d (D.bool false))) D.junk [] 0) else bif x0 == 4 then bif !Int.ofNat
  (List.length r1) == 1 then some (Out.mk true (V.one (X.d (D.bool false))) D.junk [] 0) else bif decide (x2 > 40) then some (Out.mk true (V.one (X.d (D.bool false))) D.junk [] 0) else q46_0
  Γ n1 x2 (Int.ofNat (List.length r1)) x0 r1 else some (Out.mk true (V.one (X.d (D.bool false))) D.junk [] 0) else bif x0 == 4 then bif !Int.ofNat (List.length r1) == 1 then some (Out.mk true
  (V.one (X.d (D.bool false))) D.junk [] 0) else bif decide (x2 > 40) then some (Out.mk true (V.one (X.d (D.bool false))) D.junk [] 0) else q46_0 Γ n1 x2 (Int.ofNat (List.length r1)) x0 r1
  else some (Out.mk true (V.one (X.d (D.bool false))) D.junk [] 0) else bif x0 == 2 then bif Int.ofNat (List.length r1) == 0 then bif decide (x2 > 40) then some (Out.mk true (V.one (X.d
  (D.bool false))) D.junk [] 0) else q46_0 Γ n1 x2 (Int.ofNat (List.length r1)) x0 r1 else bif x0 == 3 then bif decide (Int.ofNat (List.length r1) ≥ 2) then bif decide (Int.ofNat (List.length
  r1) ≤ 4) then bif decide (x2 > 40) then some (Out.mk true (V.one (X.d (D.bool false))) D.junk [] 0) else q46_0 Γ n1 x2 (Int.ofNat (List.length r1)) x0 r1 else bif x0 == 4 then bif
  !Int.ofNat (List.length r1) == 1 then some (Out.mk true (V.one (X.d (D.bool false))) D.junk [] 0) else bif decide (x2 > 40) then some (Out.mk true (V.one (X.d (D.bool false))) D.junk [] 0)
  else q46_0 Γ n1 x2 (Int.ofNat (List.length r1)) x0 r1 else some (Out.mk true (V.one (X.d (D.bool false))) D.junk [] 0) else bif x0 == 4 then bif !Int.ofNat (List.length r1) == 1 then some
  (Out.mk true (V.one (X.d (D.bool false))) D.junk [] 0) else bif decide (x2 > 40) then some (Out.mk true (V.one (X.d (D.bool false))) D.junk [] 0) else q46_0 Γ n1 x2 (Int.ofNat (List.length
  r1)) x0 r1 else some (Out.mk true (V.one (X.d (D.bool false))) D.junk [] 0) else bif x0 == 4 then bif !Int.ofNat (List.length r1) == 1 then some (Out.mk true (V.one (X.d (D.bool false)))
  D.junk [] 0) else bif decide (x2 > 40) then some (Out.mk true (V.one (X.d (D.bool false))) D.junk [] 0) else q46_0 Γ n1 x2 (Int.ofNat (List.length r1)) x0 r1 else some (Out.mk true (V.one
  (X.d (D.bool false))) D.junk [] 0) else bif x0 == 3 then bif decide (Int.ofNat (List.length r1) ≥ 2) then bif decide (Int.ofNat (List.length r1) ≤ 4) then bif decide (x2 > 40) then some
  (Out.mk true (V.one (X.d (D.bool false))) D.junk [] 0) else q46_0 Γ n1 x2 (Int.ofNat (List.length r1)) x0 r1 else bif x0 == 4 then bif !Int.ofNat (List.length r1) == 1 then some (Out.mk
  true (V.one (X.d (D.bool false))) D.junk [] 0) else bif decide (x2 > 40) then some (Out.mk true (V.one (X.d (D.bool false))) D.junk [] 0) else q46_0 Γ n1 x2 (Int.ofNat (List.length r1)) x0
  r1 else some (Out.mk true (V.one (X.d (D.bool false))) D.junk [] 0) else bif x0 == 4 then bif !Int.ofNat (List.length r1) == 1 then some (Out.mk true (V.one (X.d (D.bool false))) D.junk []
  0) else bif decide (x2 > 40) then some (Out.mk true (V.one (X.d (D.bool false))) D.junk [] 0) else q46_0 Γ n1 x2 (Int.ofNat (List.length r1)) x0 r1 else some (Out.mk true (V.one (X.d
  (D.bool false))) D.junk [] 0) else bif x0 == 4 then bif !Int.ofNat (List.length r1) == 1 then some (Out.mk true (V.one (X.d (D.bool false))) D.junk [] 0) else bif decide (x2 > 40) then some
  (Out.mk true (V.one (X.d (D.bool false))) D.junk [] 0) else q46_0 Γ n1 x2 (Int.ofNat (List.length r1)) x0 r1 else some (Out.mk true (V.one (X.d (D.bool false))) D.junk [] 0) := (run_step
  ..).trans (by kernel_rfl)
theorem e47_eq (Γ : SemL) (n1 : Nat) (r0 : List (List D)) (r1 : List (List D)) : e47 Γ n1 r0 r1 = bif Int.ofNat (List.length r0) != Int.ofNat (List.length r1) then some (Out.mk true (V.one
  (X.d (D.bool false))) D.junk [] 0) else q47_0 Γ n1 r0 r1 := (run_step ..).trans (by kernel_rfl)
theorem q19_0_eq (Γ : SemL) (n1 : Nat) (x0 : Int) (r1 : List (List D)) (x2 : Int) (r3 : List (List D)) : q19_0 Γ n1 x0 r1 x2 r3 = l19_0 n1 Γ n1 0 x0 r1 x2 r3 := (Jn_step ..).trans (by
  kernel_rfl)
theorem l20_0_eq (n0 : Nat) (Γ : SemL) (n2 : Nat) (r0 : List (List D)) (x1 : Int) (x2 : Int) (x3 : Int) (r4 : List (List D)) : l20_0 (n0 + 1) Γ n2 r0 x1 x2 x3 r4 = bif decide (x2 < x1) then
  q20_0 Γ n0 n2 r0 x1 x2 x3 r4 else q20_2 Γ n2 x3 r4 := (loop_step ..).trans (by kernel_rfl)
theorem l21_0_eq (n0 : Nat) (Γ : SemL) (n2 : Nat) (x0 : Int) (x1 : Int) (r2 : List (List D)) : l21_0 (n0 + 1) Γ n2 x0 x1 r2 = bif decide (x0 < Int.ofNat (List.length r2)) then q21_0 Γ n0 n2
  x0 x1 r2 else q21_2 Γ n2 x1 r2 := (loop_step ..).trans (by kernel_rfl)
theorem q22_0_eq (Γ : SemL) (n1 : Nat) (x0 : Int) (r1 : List (List D)) (x2 : Int) (r3 : List (List D)) : q22_0 Γ n1 x0 r1 x2 r3 = l22_0 n1 Γ n1 0 x0 r1 x2 r3 := (Jn_step ..).trans (by
  kernel_rfl)
theorem q45_0_eq (Γ : SemL) (n1 : Nat) (x0 : Int) (r1 : List (List D)) (x2 : Int) : q45_0 Γ n1 x0 r1 x2 = bif x0 == 1 then q45_1 Γ n1 x0 (x0 == 1) x0 r1 x2 else q45_1 Γ n1 x0 (x0 == 2) x0 r1
  x2 := (Jn_step ..).trans (by kernel_rfl)
theorem q22_0_v1_eq (Γ : SemL) (n1 : Nat) (x0 : Int) (r1 : List (List D)) (x2 : Int) : q22_0_v1 Γ n1 x0 r1 x2 = l22_0_v1 n1 Γ n1 0 x0 r1 x2 := (Jn_step ..).trans (by kernel_rfl)
theorem q43_0_eq (Γ : SemL) (n1 : Nat) (s0 : ByteArray) (x1 : Int) (x2 : Int) : q43_0 Γ n1 s0 x1 x2 = r_t2oSoB (Γ 65 [V.one (X.d (D.str s0)), V.one (X.d (D.str (ByteArray.mk #[98, 111, 111,
  108])))] []) [] fun u1_ c2_ => bif c2_ then some (Out.mk true (V.tup [V.agg [X.d (D.int IntKind.i64 1), X.d (D.list 2 [])], V.one (X.d (D.str u1_)), V.one (X.d (D.bool true))]) D.junk [] 0)
  else q43_1 Γ n1 s0 x1 x2 := (Jn_step ..).trans (by kernel_rfl)
theorem e66_eq (Γ : SemL) (n1 : Nat) (s0 : ByteArray) (x1 : Int) (s2 : ByteArray) : e66 Γ n1 s0 x1 s2 = bif decide (IntKind.wrap IntKind.i64 (x1 + Int.ofNat (ByteArray.size s2)) ≤ Int.ofNat
  (ByteArray.size s0)) then bif decide (0 ≤ IntKind.wrap IntKind.i64 (x1 + Int.ofNat (ByteArray.size s2))) && decide (IntKind.wrap IntKind.i64 (x1 + Int.ofNat (ByteArray.size s2)) ≤ Int.ofNat
  (ByteArray.size s0)) && decide (0 ≤ x1) && decide (x1 ≤ IntKind.wrap IntKind.i64 (x1 + Int.ofNat (ByteArray.size s2))) then some (Out.mk true (V.one (X.d (D.bool (beqL (Array.toList
  (ByteArray.data (ByteArray.extract s0 (Int.toNat x1) (Int.toNat (IntKind.wrap IntKind.i64 (x1 + Int.ofNat (ByteArray.size s2))))))) (Array.toList (ByteArray.data s2)))))) D.junk [] 0) else
  none else some (Out.mk true (V.one (X.d (D.bool false))) D.junk [] 0) := (run_step ..).trans (by kernel_rfl)
theorem l44_0_eq (n0 : Nat) (Γ : SemL) (n2 : Nat) (s0 : ByteArray) (x1 : Int) (x2 : Int) (x3 : Int) (x4 : Int) : l44_0 (n0 + 1) Γ n2 s0 x1 x2 x3 x4 = r_t3a2IL2oIoB (Γ 44 [V.one (X.d (D.str
  s0)), V.one (X.d (D.int IntKind.i64 x1)), V.one (X.d (D.int IntKind.i64 (IntKind.wrap IntKind.i64 (x2 + 1))))] []) [] fun i1_ w2_ i3_ c4_ => bif !c4_ then some (Out.mk true (V.tup [V.agg
  [X.d (D.int IntKind.i64 0), X.d (D.list 2 [])], V.one (X.d (D.int IntKind.i64 0)), V.one (X.d (D.bool false))]) D.junk [] 0) else q44_0 Γ n0 n2 s0 x2 i3_ x3 x4 i1_ w2_ := (loop_step
  ..).trans (by kernel_rfl)
theorem q44_2_eq (Γ : SemL) (n1 : Nat) (x0 : Int) : q44_2 Γ n1 x0 = some (Out.mk true (V.tup [V.agg [X.d (D.int IntKind.i64 0), X.d (D.list 2 [])], V.one (X.d (D.int IntKind.i64 0)), V.one
  (X.d (D.bool false))]) D.junk [] 0) := (Jn_step ..).trans (by kernel_rfl)
theorem q46_0_eq (Γ : SemL) (n1 : Nat) (x0 : Int) (x1 : Int) (x2 : Int) (r3 : List (List D)) : q46_0 Γ n1 x0 x1 x2 r3 = l46_0 n1 Γ n1 x0 x1 0 x2 r3 := (Jn_step ..).trans (by kernel_rfl)
theorem q47_0_eq (Γ : SemL) (n1 : Nat) (r0 : List (List D)) (r1 : List (List D)) : q47_0 Γ n1 r0 r1 = l47_0 n1 Γ n1 r1 r0 (Int.ofNat (List.length r0)) 0 := (Jn_step ..).trans (by kernel_rfl)
theorem l19_0_eq (n0 : Nat) (Γ : SemL) (n2 : Nat) (x0 : Int) (x1 : Int) (r2 : List (List D)) (x3 : Int) (r4 : List (List D)) : l19_0 (n0 + 1) Γ n2 x0 x1 r2 x3 r4 = bif decide (x0 < Int.ofNat
  (List.length r2)) then q19_1 Γ n0 n2 x0 x1 r2 x3 r4 else q19_3 Γ n2 := (loop_step ..).trans (by kernel_rfl)
theorem q20_0_eq (Γ : SemL) (n1 : Nat) (n2 : Nat) (r0 : List (List D)) (x1 : Int) (x2 : Int) (x3 : Int) (r4 : List (List D)) : q20_0 Γ n1 n2 r0 x1 x2 x3 r4 = bif decide (0 ≤ x2) && decide (x2
  < Int.ofNat (List.length r0)) then r_oS (Γ 20 [V.agg [X.d (List.getD (List.getD r0 (Int.toNat x2) []) 0 D.junk), X.d (List.getD (List.getD r0 (Int.toNat x2) []) 1 D.junk)]] []) [] fun u1_
  => q20_1 Γ n1 n2 [[D.str u1_]] r0 x1 x2 x3 r4 else none := (Jn_step ..).trans (by kernel_rfl)
theorem q20_2_eq (Γ : SemL) (n1 : Nat) (x0 : Int) (r1 : List (List D)) : q20_2 Γ n1 x0 r1 = r_oS (Γ 48 [V.one (X.nilL 1), V.one (X.d (D.str (ByteArray.mk #[44, 32])))] []) [] fun u1_ => bif
  x0 == 1 then some (Out.mk true (V.one (X.d (D.str (ByteArray.mk #[98, 111, 111, 108])))) D.junk [] 0) else bif x0 == 2 then some (Out.mk true (V.one (X.d (D.str (ByteArray.mk #[105, 110,
  116])))) D.junk [] 0) else bif x0 == 3 then bif Nat.ble (1 + ByteArray.size u1_) 9223372036854775807 then bif Nat.ble (ByteArray.size (ByteArray.mk #[40] ++ u1_) + 1) 9223372036854775807
  then some (Out.mk true (V.one (X.d (D.str (ByteArray.mk #[40] ++ u1_ ++ ByteArray.mk #[41])))) D.junk [] 0) else none else none else bif x0 == 4 then bif Nat.ble (1 + ByteArray.size u1_)
  9223372036854775807 then bif Nat.ble (ByteArray.size (ByteArray.mk #[91] ++ u1_) + 1) 9223372036854775807 then some (Out.mk true (V.one (X.d (D.str (ByteArray.mk #[91] ++ u1_ ++
  ByteArray.mk #[93])))) D.junk [] 0) else none else none else q20_3 Γ n1 := (Jn_step ..).trans (by kernel_rfl)
theorem q21_0_eq (Γ : SemL) (n1 : Nat) (n2 : Nat) (x0 : Int) (x1 : Int) (r2 : List (List D)) : q21_0 Γ n1 n2 x0 x1 r2 = bif decide (0 ≤ x0) && decide (x0 < Int.ofNat (List.length r2)) then
  r_oS (Γ 21 [V.agg [X.d (List.getD (List.getD r2 (Int.toNat x0) []) 0 D.junk), X.d (List.getD (List.getD r2 (Int.toNat x0) []) 1 D.junk)]] []) [] fun u1_ => q21_1 Γ n1 n2 [[D.str u1_]] x0 x1
  r2 else none := (Jn_step ..).trans (by kernel_rfl)
theorem q21_2_eq (Γ : SemL) (n1 : Nat) (x0 : Int) (r1 : List (List D)) : q21_2 Γ n1 x0 r1 = bif x0 == 1 then some (Out.mk true (V.one (X.d (D.str (ByteArray.mk #[98, 111, 111, 108])))) D.junk
  [] 0) else bif x0 == 2 then some (Out.mk true (V.one (X.d (D.str (ByteArray.mk #[105, 110, 116])))) D.junk [] 0) else bif x0 == 3 then r_oS (Γ 49 [V.one (X.nilL 1)] []) [] fun u1_ => bif
  Nat.ble (1 + ByteArray.size u1_) 9223372036854775807 then bif Nat.ble (ByteArray.size (ByteArray.mk #[40] ++ u1_) + 1) 9223372036854775807 then some (Out.mk true (V.one (X.d (D.str
  (ByteArray.mk #[40] ++ u1_ ++ ByteArray.mk #[41])))) D.junk [] 0) else none else none else bif x0 == 4 then r_oS (Γ 49 [V.one (X.nilL 1)] []) [] fun u2_ => bif Nat.ble (1 + ByteArray.size
  u2_) 9223372036854775807 then bif Nat.ble (ByteArray.size (ByteArray.mk #[91] ++ u2_) + 1) 9223372036854775807 then some (Out.mk true (V.one (X.d (D.str (ByteArray.mk #[91] ++ u2_ ++
  ByteArray.mk #[93])))) D.junk [] 0) else none else none else q21_3 Γ n1 := (Jn_step ..).trans (by kernel_rfl)
theorem l22_0_eq (n0 : Nat) (Γ : SemL) (n2 : Nat) (x0 : Int) (x1 : Int) (r2 : List (List D)) (x3 : Int) (r4 : List (List D)) : l22_0 (n0 + 1) Γ n2 x0 x1 r2 x3 r4 = bif decide (x0 < Int.ofNat
  (List.length r2)) then q22_1 Γ n0 n2 x0 x1 r2 x3 r4 else q22_3 Γ n2 := (loop_step ..).trans (by kernel_rfl)
theorem q45_1_eq (Γ : SemL) (n1 : Nat) (x0 : Int) (b1 : Bool) (x2 : Int) (r3 : List (List D)) (x4 : Int) : q45_1 Γ n1 x0 b1 x2 r3 x4 = bif b1 then some (Out.mk true (V.one (X.d (D.bool
  (Int.ofNat (List.length r3) == 0)))) D.junk [] 0) else bif x0 == 3 then bif decide (Int.ofNat (List.length r3) < 2) then some (Out.mk true (V.one (X.d (D.bool false))) D.junk [] 0) else bif
  decide (Int.ofNat (List.length r3) > 4) then some (Out.mk true (V.one (X.d (D.bool false))) D.junk [] 0) else q45_2 Γ n1 x2 r3 x4 else bif x0 == 4 then bif Int.ofNat (List.length r3) != 1
  then some (Out.mk true (V.one (X.d (D.bool false))) D.junk [] 0) else q45_2 Γ n1 x2 r3 x4 else some (Out.mk true (V.one (X.d (D.bool false))) D.junk [] 0) := (Jn_step ..).trans (by
  kernel_rfl)
theorem l22_0_v1_eq (n0 : Nat) (Γ : SemL) (n2 : Nat) (x0 : Int) (x1 : Int) (r2 : List (List D)) (x3 : Int) : l22_0_v1 (n0 + 1) Γ n2 x0 x1 r2 x3 = bif decide (x0 < Int.ofNat (List.length r2))
  then q22_1_v1 Γ n0 n2 x0 x1 r2 x3 else q22_3 Γ n2 := (loop_step ..).trans (by kernel_rfl)
theorem e65_eq (Γ : SemL) (n1 : Nat) (s0 : ByteArray) (s1 : ByteArray) : e65 Γ n1 s0 s1 = r_t2oSoB (Γ 83 [V.one (X.d (D.str s0)), V.one (X.d (D.str s1))] []) [] fun u1_ c2_ => some (Out.mk
  true (V.tup [V.one (X.d (D.str u1_)), V.one (X.d (D.bool c2_))]) D.junk [] 0) := (run_step ..).trans (by kernel_rfl)
theorem q43_1_eq (Γ : SemL) (n1 : Nat) (s0 : ByteArray) (x1 : Int) (x2 : Int) : q43_1 Γ n1 s0 x1 x2 = r_t2oSoB (Γ 65 [V.one (X.d (D.str s0)), V.one (X.d (D.str (ByteArray.mk #[105, 110,
  116])))] []) [] fun u1_ c2_ => bif c2_ then some (Out.mk true (V.tup [V.agg [X.d (D.int IntKind.i64 2), X.d (D.list 2 [])], V.one (X.d (D.str u1_)), V.one (X.d (D.bool true))]) D.junk [] 0)
  else q43_2 Γ n1 s0 x1 x2 := (Jn_step ..).trans (by kernel_rfl)
theorem q44_0_eq (Γ : SemL) (n1 : Nat) (n2 : Nat) (s0 : ByteArray) (x1 : Int) (x2 : Int) (x3 : Int) (x4 : Int) (x5 : Int) (r6 : List (List D)) : q44_0 Γ n1 n2 s0 x1 x2 x3 x4 x5 r6 = r_oB (Γ
  66 [V.one (X.d (D.str s0)), V.one (X.d (D.int IntKind.i64 x2)), V.one (X.d (D.str (ByteArray.mk #[44, 32])))] []) [] fun c2_ => bif !c2_ then r_oB (Γ 66 [V.one (X.d (D.str s0)), V.one (X.d
  (D.int IntKind.i64 x2)), V.one (X.d (D.str (ByteArray.mk #[41])))] []) [] fun c1_ => bif c1_ then some (Out.mk true (V.tup [V.agg [X.d (D.int IntKind.i64 x4), X.d (D.list 2 [[D.int
  IntKind.i64 x5, D.list 2 r6]])], V.one (X.d (D.int IntKind.i64 (IntKind.wrap IntKind.i64 (x2 + 1)))), V.one (X.d (D.bool false))]) D.junk [] 0) else some (Out.mk true (V.tup [V.agg [X.d
  (D.int IntKind.i64 x4), X.d (D.list 2 [[D.int IntKind.i64 x5, D.list 2 r6]])], V.one (X.d (D.int IntKind.i64 (IntKind.wrap IntKind.i64 (x2 + 1)))), V.one (X.d (D.bool false))]) D.junk [] 0)
  else q44_1 Γ n1 n2 s0 x2 x1 x3 x4 [[D.int IntKind.i64 x5, D.list 2 r6]] := (Jn_step ..).trans (by kernel_rfl)
theorem l46_0_eq (n0 : Nat) (Γ : SemL) (n2 : Nat) (x0 : Int) (x1 : Int) (x2 : Int) (x3 : Int) (r4 : List (List D)) : l46_0 (n0 + 1) Γ n2 x0 x1 x2 x3 r4 = bif decide (x2 < x1) then q46_1 Γ n0
  n2 x0 x1 x2 x3 r4 else q46_3 Γ n2 := (loop_step ..).trans (by kernel_rfl)
theorem l47_0_eq (n0 : Nat) (Γ : SemL) (n2 : Nat) (r0 : List (List D)) (r1 : List (List D)) (x2 : Int) (x3 : Int) : l47_0 (n0 + 1) Γ n2 r0 r1 x2 x3 = bif decide (x3 < x2) then q47_1 Γ n0 n2
  r0 r1 x2 x3 else q47_3 Γ n2 := (loop_step ..).trans (by kernel_rfl)
theorem q19_1_eq (Γ : SemL) (n1 : Nat) (n2 : Nat) (x0 : Int) (x1 : Int) (r2 : List (List D)) (x3 : Int) (r4 : List (List D)) : q19_1 Γ n1 n2 x0 x1 r2 x3 r4 = bif decide (0 ≤ x0) && decide (x0
  < Int.ofNat (List.length r2)) then bif decide (0 ≤ x0) && decide (x0 < Int.ofNat (List.length r4)) then r_oB (Γ 19 [V.agg [X.d (List.getD (List.getD r2 (Int.toNat x0) []) 0 D.junk), X.d
  (List.getD (List.getD r2 (Int.toNat x0) []) 1 D.junk)], V.agg [X.d (List.getD (List.getD r4 (Int.toNat x0) []) 0 D.junk), X.d (List.getD (List.getD r4 (Int.toNat x0) []) 1 D.junk)]] []) []
  fun c1_ => bif !c1_ then some (Out.mk true (V.one (X.d (D.bool false))) D.junk [] 0) else q19_2 Γ n1 n2 x0 x1 r2 x3 r4 else none else none := (Jn_step ..).trans (by kernel_rfl)
theorem q19_3_eq (Γ : SemL) (n1 : Nat) : q19_3 Γ n1 = some (Out.mk true (V.one (X.d (D.bool true))) D.junk [] 0) := (Jn_step ..).trans (by kernel_rfl)
theorem q20_1_eq (Γ : SemL) (n1 : Nat) (n2 : Nat) (r0 : List (List D)) (r1 : List (List D)) (x2 : Int) (x3 : Int) (x4 : Int) (r5 : List (List D)) : q20_1 Γ n1 n2 r0 r1 x2 x3 x4 r5 = l20_0_v1
  n1 Γ n2 r0 r1 x2 (IntKind.wrap IntKind.i64 (x3 + 1)) x4 r5 := (Jn_step ..).trans (by kernel_rfl)
theorem q20_3_eq (Γ : SemL) (n1 : Nat) : q20_3 Γ n1 = some (Out.mk true (V.one (X.d (D.str (ByteArray.mk #[63])))) D.junk [] 0) := (Jn_step ..).trans (by kernel_rfl)
theorem q21_1_eq (Γ : SemL) (n1 : Nat) (n2 : Nat) (r0 : List (List D)) (x1 : Int) (x2 : Int) (r3 : List (List D)) : q21_1 Γ n1 n2 r0 x1 x2 r3 = l21_0_v1 n1 Γ n2 r0 (IntKind.wrap IntKind.i64
  (x1 + 1)) x2 r3 := (Jn_step ..).trans (by kernel_rfl)
theorem e49_eq (Γ : SemL) (n1 : Nat) : e49 Γ n1 = l49_0 n1 Γ n1 (ByteArray.mk #[]) 0 := (run_step ..).trans (by kernel_rfl)
theorem q21_3_eq (Γ : SemL) (n1 : Nat) : q21_3 Γ n1 = some (Out.mk true (V.one (X.d (D.str (ByteArray.mk #[63])))) D.junk [] 0) := (Jn_step ..).trans (by kernel_rfl)
theorem q22_1_eq (Γ : SemL) (n1 : Nat) (n2 : Nat) (x0 : Int) (x1 : Int) (r2 : List (List D)) (x3 : Int) (r4 : List (List D)) : q22_1 Γ n1 n2 x0 x1 r2 x3 r4 = bif decide (0 ≤ x0) && decide (x0
  < Int.ofNat (List.length r2)) then bif decide (0 ≤ x0) && decide (x0 < Int.ofNat (List.length r4)) then r_oB (Γ 22 [V.agg [X.d (List.getD (List.getD r2 (Int.toNat x0) []) 0 D.junk), X.d
  (List.getD (List.getD r2 (Int.toNat x0) []) 1 D.junk)], V.agg [X.d (List.getD (List.getD r4 (Int.toNat x0) []) 0 D.junk), X.d (List.getD (List.getD r4 (Int.toNat x0) []) 1 D.junk)]] []) []
  fun c1_ => bif !c1_ then some (Out.mk true (V.one (X.d (D.bool false))) D.junk [] 0) else q22_2 Γ n1 n2 x0 x1 r2 x3 r4 else none else none := (Jn_step ..).trans (by kernel_rfl)
theorem q22_3_eq (Γ : SemL) (n1 : Nat) : q22_3 Γ n1 = some (Out.mk true (V.one (X.d (D.bool true))) D.junk [] 0) := (Jn_step ..).trans (by kernel_rfl)
theorem q45_2_eq (Γ : SemL) (n1 : Nat) (x0 : Int) (r1 : List (List D)) (x2 : Int) : q45_2 Γ n1 x0 r1 x2 = Option.bind (Γ 67 [V.one (X.d (D.list 2 r1)), V.one (X.fn 68 [X.ptr 0 0])] [([Lf.int
  IntKind.i64], [D.int IntKind.i64 x2])]) fun o1_ => bif true && D.isInt IntKind.i64 (List.getD (List.getD (Out.rows o1_) 0 []) 0 D.junk) then bif Nat.beq (List.length (List.getD (Out.rows
  o1_) 0 [])) 1 then bif Out.ok o1_ then bif V.isOne (Out.val o1_) then bif X.isD (X.cell (Out.val o1_) 0) && D.isBool (X.dd (X.cell (Out.val o1_) 0)) then bif Nat.beq (Out.m o1_) 0 && true
  then some (Out.mk true (V.one (X.d (D.bool !D.bit (X.dd (X.cell (Out.val o1_) 0))))) D.junk [] 0) else none else none else none else some (Out.mk false V.junk (Out.pv o1_) [] 0) else none
  else none := (Jn_step ..).trans (by kernel_rfl)
theorem q22_1_v1_eq (Γ : SemL) (n1 : Nat) (n2 : Nat) (x0 : Int) (x1 : Int) (r2 : List (List D)) (x3 : Int) : q22_1_v1 Γ n1 n2 x0 x1 r2 x3 = bif decide (0 ≤ x0) && decide (x0 < Int.ofNat
  (List.length r2)) then bif decide (0 ≤ x0) && decide (x0 < Int.ofNat 0) then r_oB (Γ 22 [V.agg [X.d (List.getD (List.getD r2 (Int.toNat x0) []) 0 D.junk), X.d (List.getD (List.getD r2
  (Int.toNat x0) []) 1 D.junk)], V.agg [X.d D.junk, X.d D.junk]] []) [] fun c1_ => bif !c1_ then some (Out.mk true (V.one (X.d (D.bool false))) D.junk [] 0) else q22_2_v1 Γ n1 n2 x0 x1 r2 x3
  else none else none := (Jn_step ..).trans (by kernel_rfl)
theorem e83_eq (Γ : SemL) (n1 : Nat) (s0 : ByteArray) (s1 : ByteArray) : e83 Γ n1 s0 s1 = r_oB (Γ 91 [V.one (X.d (D.str s0)), V.one (X.d (D.str s1))] []) [] fun c1_ => bif !c1_ then some
  (Out.mk true (V.tup [V.one (X.d (D.str s0)), V.one (X.d (D.bool false))]) D.junk [] 0) else q83_0 Γ n1 s0 s1 := (run_step ..).trans (by kernel_rfl)
theorem q43_2_eq (Γ : SemL) (n1 : Nat) (s0 : ByteArray) (x1 : Int) (x2 : Int) : q43_2 Γ n1 s0 x1 x2 = r_t2oSoB (Γ 65 [V.one (X.d (D.str s0)), V.one (X.d (D.str (ByteArray.mk #[40])))] []) []
  fun u3_ c4_ => bif !c4_ then r_t2oSoB (Γ 65 [V.one (X.d (D.str s0)), V.one (X.d (D.str (ByteArray.mk #[91])))] []) [] fun u1_ c2_ => q43_3 Γ n1 x1 4 (ByteArray.mk #[93]) u1_ c2_ x2 else
  q43_3 Γ n1 x1 3 (ByteArray.mk #[41]) u3_ c4_ x2 := (Jn_step ..).trans (by kernel_rfl)
theorem q44_1_eq (Γ : SemL) (n1 : Nat) (n2 : Nat) (s0 : ByteArray) (x1 : Int) (x2 : Int) (x3 : Int) (x4 : Int) (r5 : List (List D)) : q44_1 Γ n1 n2 s0 x1 x2 x3 x4 r5 = l44_0_v1 n1 Γ n2 s0
  (IntKind.wrap IntKind.i64 (x1 + 2)) x2 x3 x4 r5 := (Jn_step ..).trans (by kernel_rfl)
theorem q46_1_eq (Γ : SemL) (n1 : Nat) (n2 : Nat) (x0 : Int) (x1 : Int) (x2 : Int) (x3 : Int) (r4 : List (List D)) : q46_1 Γ n1 n2 x0 x1 x2 x3 r4 = bif decide (0 ≤ x2) && decide (x2 <
  Int.ofNat (List.length r4)) then r_oB (Γ 46 [V.agg [X.d (List.getD (List.getD r4 (Int.toNat x2) []) 0 D.junk), X.d (List.getD (List.getD r4 (Int.toNat x2) []) 1 D.junk)], V.one (X.d (D.int
  IntKind.i64 (IntKind.wrap IntKind.i64 (x0 + 1))))] []) [] fun c1_ => bif !c1_ then some (Out.mk true (V.one (X.d (D.bool false))) D.junk [] 0) else q46_2 Γ n1 n2 x0 x1 x2 x3 r4 else none :=
  (Jn_step ..).trans (by kernel_rfl)
theorem q46_3_eq (Γ : SemL) (n1 : Nat) : q46_3 Γ n1 = some (Out.mk true (V.one (X.d (D.bool true))) D.junk [] 0) := (Jn_step ..).trans (by kernel_rfl)
theorem q47_1_eq (Γ : SemL) (n1 : Nat) (n2 : Nat) (r0 : List (List D)) (r1 : List (List D)) (x2 : Int) (x3 : Int) : q47_1 Γ n1 n2 r0 r1 x2 x3 = bif decide (0 ≤ x3) && decide (x3 < Int.ofNat
  (List.length r1)) then bif decide (0 ≤ x3) && decide (x3 < Int.ofNat (List.length r0)) then r_oB (Γ 18 [V.agg [X.d (List.getD (List.getD r1 (Int.toNat x3) []) 0 D.junk), X.d (List.getD
  (List.getD r1 (Int.toNat x3) []) 1 D.junk)], V.agg [X.d (List.getD (List.getD r0 (Int.toNat x3) []) 0 D.junk), X.d (List.getD (List.getD r0 (Int.toNat x3) []) 1 D.junk)]] []) [] fun c1_ =>
  bif !c1_ then some (Out.mk true (V.one (X.d (D.bool false))) D.junk [] 0) else q47_2 Γ n1 n2 r0 r1 x2 x3 else none else none := (Jn_step ..).trans (by kernel_rfl)
theorem q47_3_eq (Γ : SemL) (n1 : Nat) : q47_3 Γ n1 = some (Out.mk true (V.one (X.d (D.bool true))) D.junk [] 0) := (Jn_step ..).trans (by kernel_rfl)
theorem q19_2_eq (Γ : SemL) (n1 : Nat) (n2 : Nat) (x0 : Int) (x1 : Int) (r2 : List (List D)) (x3 : Int) (r4 : List (List D)) : q19_2 Γ n1 n2 x0 x1 r2 x3 r4 = l19_0 n1 Γ n2 (IntKind.wrap
  IntKind.i64 (x0 + 1)) x1 r2 x3 r4 := (Jn_step ..).trans (by kernel_rfl)
theorem l20_0_v1_eq (n0 : Nat) (Γ : SemL) (n2 : Nat) (r0 : List (List D)) (r1 : List (List D)) (x2 : Int) (x3 : Int) (x4 : Int) (r5 : List (List D)) : l20_0_v1 (n0 + 1) Γ n2 r0 r1 x2 x3 x4 r5
  = bif decide (x3 < x2) then q20_0_v1 Γ n0 n2 r0 r1 x2 x3 x4 r5 else q20_2_v1 Γ n2 r0 x4 r5 := (loop_step ..).trans (by kernel_rfl)
theorem l21_0_v1_eq (n0 : Nat) (Γ : SemL) (n2 : Nat) (r0 : List (List D)) (x1 : Int) (x2 : Int) (r3 : List (List D)) : l21_0_v1 (n0 + 1) Γ n2 r0 x1 x2 r3 = bif decide (x1 < Int.ofNat
  (List.length r3)) then q21_0_v1 Γ n0 n2 r0 x1 x2 r3 else q21_2_v1 Γ n2 r0 x2 r3 := (loop_step ..).trans (by kernel_rfl)
theorem l49_0_eq (n0 : Nat) (Γ : SemL) (n2 : Nat) (s0 : ByteArray) (x1 : Int) : l49_0 (n0 + 1) Γ n2 s0 x1 = bif decide (x1 < Int.ofNat 0) then q49_0 Γ n0 n2 s0 x1 else q49_3 Γ n2 s0 :=
  (loop_step ..).trans (by kernel_rfl)
theorem q22_2_eq (Γ : SemL) (n1 : Nat) (n2 : Nat) (x0 : Int) (x1 : Int) (r2 : List (List D)) (x3 : Int) (r4 : List (List D)) : q22_2 Γ n1 n2 x0 x1 r2 x3 r4 = l22_0 n1 Γ n2 (IntKind.wrap
  IntKind.i64 (x0 + 1)) x1 r2 x3 r4 := (Jn_step ..).trans (by kernel_rfl)
theorem e67_eq (Γ : SemL) (n1 : Nat) (r0 : List (List D)) (x1 : Int) : e67 Γ n1 r0 x1 = Option.bind (Γ 84 [V.one (X.d (D.list 2 r0)), V.one (X.fn 68 [X.ptr 0 0])] [([Lf.int IntKind.i64],
  [D.int IntKind.i64 x1])]) fun o1_ => bif true && D.isInt IntKind.i64 (List.getD (List.getD (Out.rows o1_) 0 []) 0 D.junk) then bif Nat.beq (List.length (List.getD (Out.rows o1_) 0 [])) 1
  then bif Out.ok o1_ then bif V.isOne (Out.val o1_) then bif X.isD (X.cell (Out.val o1_) 0) && D.isInt IntKind.i64 (X.dd (X.cell (Out.val o1_) 0)) then bif Nat.beq (Out.m o1_) 0 && true then
  some (Out.mk true (V.one (X.d (D.bool (decide (D.num (X.dd (X.cell (Out.val o1_) 0)) ≥ 0))))) D.junk [[D.int IntKind.i64 (D.num (List.getD (List.getD (Out.rows o1_) 0 []) 0 D.junk))]] 0)
  else none else none else none else some (Out.mk false V.junk (Out.pv o1_) [[D.int IntKind.i64 (D.num (List.getD (List.getD (Out.rows o1_) 0 []) 0 D.junk))]] 0) else none else none :=
  (run_step ..).trans (by kernel_rfl)
theorem e22_v2_eq (Γ : SemL) (n1 : Nat) (x0 : Int) (r1 : List (List D)) : e22_v2 Γ n1 x0 r1 = none := (run_step ..).trans (by kernel_rfl)
theorem q22_2_v1_eq (Γ : SemL) (n1 : Nat) (n2 : Nat) (x0 : Int) (x1 : Int) (r2 : List (List D)) (x3 : Int) : q22_2_v1 Γ n1 n2 x0 x1 r2 x3 = l22_0_v1 n1 Γ n2 (IntKind.wrap IntKind.i64 (x0 +
  1)) x1 r2 x3 := (Jn_step ..).trans (by kernel_rfl)
theorem e91_eq (Γ : SemL) (n1 : Nat) (s0 : ByteArray) (s1 : ByteArray) : e91 Γ n1 s0 s1 = bif decide (Int.ofNat (ByteArray.size s0) ≥ Int.ofNat (ByteArray.size s1)) then bif decide (0 ≤
  Int.ofNat (ByteArray.size s1)) && decide (Int.ofNat (ByteArray.size s1) ≤ Int.ofNat (ByteArray.size s0)) && true && decide (0 ≤ Int.ofNat (ByteArray.size s1)) then some (Out.mk true (V.one
  (X.d (D.bool (beqL (Array.toList (ByteArray.data (ByteArray.extract s0 0 (Int.toNat (Int.ofNat (ByteArray.size s1)))))) (Array.toList (ByteArray.data s1)))))) D.junk [] 0) else none else
  some (Out.mk true (V.one (X.d (D.bool false))) D.junk [] 0) := (run_step ..).trans (by kernel_rfl)
theorem q83_0_eq (Γ : SemL) (n1 : Nat) (s0 : ByteArray) (s1 : ByteArray) : q83_0 Γ n1 s0 s1 = bif decide (0 ≤ Int.ofNat (ByteArray.size s0)) && decide (Int.ofNat (ByteArray.size s0) ≤
  Int.ofNat (ByteArray.size s0)) && decide (0 ≤ Int.ofNat (ByteArray.size s1)) && decide (Int.ofNat (ByteArray.size s1) ≤ Int.ofNat (ByteArray.size s0)) then some (Out.mk true (V.tup [V.one
  (X.d (D.str (ByteArray.extract s0 (Int.toNat (Int.ofNat (ByteArray.size s1))) (Int.toNat (Int.ofNat (ByteArray.size s0)))))), V.one (X.d (D.bool true))]) D.junk [] 0) else none := (Jn_step
  ..).trans (by kernel_rfl)
theorem q43_3_eq (Γ : SemL) (n1 : Nat) (x0 : Int) (x1 : Int) (s2 : ByteArray) (s3 : ByteArray) (b4 : Bool) (x5 : Int) : q43_3 Γ n1 x0 x1 s2 s3 b4 x5 = l43_0 n1 Γ n1 x0 s2 s3 b4 x5 x1 :=
  (Jn_step ..).trans (by kernel_rfl)
theorem l44_0_v1_eq (n0 : Nat) (Γ : SemL) (n2 : Nat) (s0 : ByteArray) (x1 : Int) (x2 : Int) (x3 : Int) (x4 : Int) (r5 : List (List D)) : l44_0_v1 (n0 + 1) Γ n2 s0 x1 x2 x3 x4 r5 =
  r_t3a2IL2oIoB (Γ 44 [V.one (X.d (D.str s0)), V.one (X.d (D.int IntKind.i64 x1)), V.one (X.d (D.int IntKind.i64 (IntKind.wrap IntKind.i64 (x2 + 1))))] []) [] fun i1_ w2_ i3_ c4_ => bif !c4_
  then some (Out.mk true (V.tup [V.agg [X.d (D.int IntKind.i64 0), X.d (D.list 2 [])], V.one (X.d (D.int IntKind.i64 0)), V.one (X.d (D.bool false))]) D.junk [] 0) else q44_0_v1 Γ n0 n2 s0 x2
  i3_ x3 x4 r5 i1_ w2_ := (loop_step ..).trans (by kernel_rfl)
theorem q46_2_eq (Γ : SemL) (n1 : Nat) (n2 : Nat) (x0 : Int) (x1 : Int) (x2 : Int) (x3 : Int) (r4 : List (List D)) : q46_2 Γ n1 n2 x0 x1 x2 x3 r4 = l46_0 n1 Γ n2 x0 x1 (IntKind.wrap
  IntKind.i64 (x2 + 1)) x3 r4 := (Jn_step ..).trans (by kernel_rfl)
theorem q47_2_eq (Γ : SemL) (n1 : Nat) (n2 : Nat) (r0 : List (List D)) (r1 : List (List D)) (x2 : Int) (x3 : Int) : q47_2 Γ n1 n2 r0 r1 x2 x3 = l47_0 n1 Γ n2 r0 r1 x2 (IntKind.wrap
  IntKind.i64 (x3 + 1)) := (Jn_step ..).trans (by kernel_rfl)
theorem q20_0_v1_eq (Γ : SemL) (n1 : Nat) (n2 : Nat) (r0 : List (List D)) (r1 : List (List D)) (x2 : Int) (x3 : Int) (x4 : Int) (r5 : List (List D)) : q20_0_v1 Γ n1 n2 r0 r1 x2 x3 x4 r5 = bif
  decide (0 ≤ x3) && decide (x3 < Int.ofNat (List.length r1)) then r_oS (Γ 20 [V.agg [X.d (List.getD (List.getD r1 (Int.toNat x3) []) 0 D.junk), X.d (List.getD (List.getD r1 (Int.toNat x3)
  []) 1 D.junk)]] []) [] fun u1_ => bif true && true && true && Nat.ble ((List.length r0 + List.length [[D.str u1_]]) * 17) 140737488355328 then q20_1 Γ n1 n2 (r0 ++ [[D.str u1_]]) r1 x2 x3
  x4 r5 else none else none := (Jn_step ..).trans (by kernel_rfl)
theorem q20_2_v1_eq (Γ : SemL) (n1 : Nat) (r0 : List (List D)) (x1 : Int) (r2 : List (List D)) : q20_2_v1 Γ n1 r0 x1 r2 = r_oS (Γ 48 [V.one (X.d (D.list 1 r0)), V.one (X.d (D.str
  (ByteArray.mk #[44, 32])))] []) [] fun u1_ => bif x1 == 1 then some (Out.mk true (V.one (X.d (D.str (ByteArray.mk #[98, 111, 111, 108])))) D.junk [] 0) else bif x1 == 2 then some (Out.mk
  true (V.one (X.d (D.str (ByteArray.mk #[105, 110, 116])))) D.junk [] 0) else bif x1 == 3 then bif Nat.ble (1 + ByteArray.size u1_) 9223372036854775807 then bif Nat.ble (ByteArray.size
  (ByteArray.mk #[40] ++ u1_) + 1) 9223372036854775807 then some (Out.mk true (V.one (X.d (D.str (ByteArray.mk #[40] ++ u1_ ++ ByteArray.mk #[41])))) D.junk [] 0) else none else none else bif
  x1 == 4 then bif Nat.ble (1 + ByteArray.size u1_) 9223372036854775807 then bif Nat.ble (ByteArray.size (ByteArray.mk #[91] ++ u1_) + 1) 9223372036854775807 then some (Out.mk true (V.one
  (X.d (D.str (ByteArray.mk #[91] ++ u1_ ++ ByteArray.mk #[93])))) D.junk [] 0) else none else none else q20_3 Γ n1 := (Jn_step ..).trans (by kernel_rfl)
theorem q21_0_v1_eq (Γ : SemL) (n1 : Nat) (n2 : Nat) (r0 : List (List D)) (x1 : Int) (x2 : Int) (r3 : List (List D)) : q21_0_v1 Γ n1 n2 r0 x1 x2 r3 = bif decide (0 ≤ x1) && decide (x1 <
  Int.ofNat (List.length r3)) then r_oS (Γ 21 [V.agg [X.d (List.getD (List.getD r3 (Int.toNat x1) []) 0 D.junk), X.d (List.getD (List.getD r3 (Int.toNat x1) []) 1 D.junk)]] []) [] fun u1_ =>
  bif true && true && true && Nat.ble ((List.length r0 + List.length [[D.str u1_]]) * 17) 140737488355328 then q21_1 Γ n1 n2 (r0 ++ [[D.str u1_]]) x1 x2 r3 else none else none := (Jn_step
  ..).trans (by kernel_rfl)
theorem q21_2_v1_eq (Γ : SemL) (n1 : Nat) (r0 : List (List D)) (x1 : Int) (r2 : List (List D)) : q21_2_v1 Γ n1 r0 x1 r2 = bif x1 == 1 then some (Out.mk true (V.one (X.d (D.str (ByteArray.mk
  #[98, 111, 111, 108])))) D.junk [] 0) else bif x1 == 2 then some (Out.mk true (V.one (X.d (D.str (ByteArray.mk #[105, 110, 116])))) D.junk [] 0) else bif x1 == 3 then r_oS (Γ 49 [V.one (X.d
  (D.list 1 r0))] []) [] fun u1_ => bif Nat.ble (1 + ByteArray.size u1_) 9223372036854775807 then bif Nat.ble (ByteArray.size (ByteArray.mk #[40] ++ u1_) + 1) 9223372036854775807 then some
  (Out.mk true (V.one (X.d (D.str (ByteArray.mk #[40] ++ u1_ ++ ByteArray.mk #[41])))) D.junk [] 0) else none else none else bif x1 == 4 then r_oS (Γ 49 [V.one (X.d (D.list 1 r0))] []) [] fun
  u2_ => bif Nat.ble (1 + ByteArray.size u2_) 9223372036854775807 then bif Nat.ble (ByteArray.size (ByteArray.mk #[91] ++ u2_) + 1) 9223372036854775807 then some (Out.mk true (V.one (X.d
  (D.str (ByteArray.mk #[91] ++ u2_ ++ ByteArray.mk #[93])))) D.junk [] 0) else none else none else q21_3 Γ n1 := (Jn_step ..).trans (by kernel_rfl)
theorem q49_0_eq (Γ : SemL) (n1 : Nat) (n2 : Nat) (s0 : ByteArray) (x1 : Int) : q49_0 Γ n1 n2 s0 x1 = bif decide (x1 > 0) then bif Nat.ble (ByteArray.size s0 + 2) 9223372036854775807 then
  q49_1 Γ n1 n2 (s0 ++ ByteArray.mk #[44, 32]) x1 else none else q49_1 Γ n1 n2 s0 x1 := (Jn_step ..).trans (by kernel_rfl)
theorem q49_3_eq (Γ : SemL) (n1 : Nat) (s0 : ByteArray) : q49_3 Γ n1 s0 = some (Out.mk true (V.one (X.d (D.str s0))) D.junk [] 0) := (Jn_step ..).trans (by kernel_rfl)
theorem e84_eq (Γ : SemL) (n1 : Nat) (r0 : List (List D)) (x1 : Int) : e84 Γ n1 r0 x1 = l84_0 n1 Γ n1 x1 r0 (Int.ofNat (List.length r0)) 0 x1 := (run_step ..).trans (by kernel_rfl)
theorem l43_0_eq (n0 : Nat) (Γ : SemL) (n2 : Nat) (x0 : Int) (s1 : ByteArray) (s2 : ByteArray) (b3 : Bool) (x4 : Int) (x5 : Int) : l43_0 (n0 + 1) Γ n2 x0 s1 s2 b3 x4 x5 = bif b3 then q43_4 Γ
  n0 n2 x0 s1 s2 x4 x5 else q43_7 Γ n2 x4 := (loop_step ..).trans (by kernel_rfl)
theorem q44_0_v1_eq (Γ : SemL) (n1 : Nat) (n2 : Nat) (s0 : ByteArray) (x1 : Int) (x2 : Int) (x3 : Int) (x4 : Int) (r5 : List (List D)) (x6 : Int) (r7 : List (List D)) : q44_0_v1 Γ n1 n2 s0 x1
  x2 x3 x4 r5 x6 r7 = bif true && true && true && Nat.ble ((List.length r5 + List.length [[D.int IntKind.i64 x6, D.list 2 r7]]) * 33) 140737488355328 then r_oB (Γ 66 [V.one (X.d (D.str s0)),
  V.one (X.d (D.int IntKind.i64 x2)), V.one (X.d (D.str (ByteArray.mk #[44, 32])))] []) [] fun c2_ => bif !c2_ then r_oB (Γ 66 [V.one (X.d (D.str s0)), V.one (X.d (D.int IntKind.i64 x2)),
  V.one (X.d (D.str (ByteArray.mk #[41])))] []) [] fun c1_ => bif c1_ then bif decide (Int.ofNat (List.length (r5 ++ [[D.int IntKind.i64 x6, D.list 2 r7]])) ≥ 2) then some (Out.mk true (V.tup
  [V.agg [X.d (D.int IntKind.i64 x4), X.d (D.list 2 (r5 ++ [[D.int IntKind.i64 x6, D.list 2 r7]]))], V.one (X.d (D.int IntKind.i64 (IntKind.wrap IntKind.i64 (x2 + 1)))), V.one (X.d (D.bool
  (decide (Int.ofNat (List.length (r5 ++ [[D.int IntKind.i64 x6, D.list 2 r7]])) ≤ 4))))]) D.junk [] 0) else some (Out.mk true (V.tup [V.agg [X.d (D.int IntKind.i64 x4), X.d (D.list 2 (r5 ++
  [[D.int IntKind.i64 x6, D.list 2 r7]]))], V.one (X.d (D.int IntKind.i64 (IntKind.wrap IntKind.i64 (x2 + 1)))), V.one (X.d (D.bool false))]) D.junk [] 0) else some (Out.mk true (V.tup [V.agg
  [X.d (D.int IntKind.i64 x4), X.d (D.list 2 (r5 ++ [[D.int IntKind.i64 x6, D.list 2 r7]]))], V.one (X.d (D.int IntKind.i64 (IntKind.wrap IntKind.i64 (x2 + 1)))), V.one (X.d (D.bool false))])
  D.junk [] 0) else q44_1 Γ n1 n2 s0 x2 x1 x3 x4 (r5 ++ [[D.int IntKind.i64 x6, D.list 2 r7]]) else none := (Jn_step ..).trans (by kernel_rfl)
theorem e49_v1_eq (Γ : SemL) (n1 : Nat) (r0 : List (List D)) : e49_v1 Γ n1 r0 = l49_0_v1 n1 Γ n1 r0 (ByteArray.mk #[]) 0 := (run_step ..).trans (by kernel_rfl)
theorem q49_1_eq (Γ : SemL) (n1 : Nat) (n2 : Nat) (s0 : ByteArray) (x1 : Int) : q49_1 Γ n1 n2 s0 x1 = bif decide (0 ≤ x1) && decide (x1 < Int.ofNat 0) then none else none := (Jn_step
  ..).trans (by kernel_rfl)
theorem l84_0_eq (n0 : Nat) (Γ : SemL) (n2 : Nat) (z3 : Int) (r0 : List (List D)) (x1 : Int) (x2 : Int) (x3 : Int) : l84_0 (n0 + 1) Γ n2 z3 r0 x1 x2 x3 = bif decide (x2 < x1) then q84_0 Γ n0
  n2 z3 r0 x1 x2 x3 else q84_2 Γ n2 z3 x3 := (loop_step ..).trans (by kernel_rfl)
theorem q43_4_eq (Γ : SemL) (n1 : Nat) (n2 : Nat) (x0 : Int) (s1 : ByteArray) (s2 : ByteArray) (x3 : Int) (x4 : Int) : q43_4 Γ n1 n2 x0 s1 s2 x3 x4 = r_t3a2IL2oSoB (Γ 43 [V.one (X.d (D.str
  s2)), V.one (X.d (D.int IntKind.i64 (IntKind.wrap IntKind.i64 (x0 - 1))))] []) [] fun i1_ w2_ u3_ c4_ => bif !c4_ then q43_7 Γ n2 x3 else q43_5 Γ n1 n2 x0 s1 u3_ x3 x4 i1_ w2_ := (Jn_step
  ..).trans (by kernel_rfl)
theorem q43_7_eq (Γ : SemL) (n1 : Nat) (x0 : Int) : q43_7 Γ n1 x0 = some (Out.mk true (V.tup [V.agg [X.d (D.int IntKind.i64 0), X.d (D.list 2 [])], V.one (X.d (D.str (ByteArray.mk #[]))),
  V.one (X.d (D.bool false))]) D.junk [] 0) := (Jn_step ..).trans (by kernel_rfl)
theorem l49_0_v1_eq (n0 : Nat) (Γ : SemL) (n2 : Nat) (r0 : List (List D)) (s1 : ByteArray) (x2 : Int) : l49_0_v1 (n0 + 1) Γ n2 r0 s1 x2 = bif decide (x2 < Int.ofNat (List.length r0)) then
  q49_0_v1 Γ n0 n2 r0 s1 x2 else q49_3 Γ n2 s1 := (loop_step ..).trans (by kernel_rfl)
theorem q84_0_eq (Γ : SemL) (n1 : Nat) (n2 : Nat) (z3 : Int) (r0 : List (List D)) (x1 : Int) (x2 : Int) (x3 : Int) : q84_0 Γ n1 n2 z3 r0 x1 x2 x3 = bif decide (0 ≤ x2) && decide (x2 <
  Int.ofNat (List.length r0)) then Option.bind (Γ 68 [V.agg [X.d (List.getD (List.getD r0 (Int.toNat x2) []) 0 D.junk), X.d (List.getD (List.getD r0 (Int.toNat x2) []) 1 D.junk)], V.one
  (X.ptr 0 0)] [([Lf.int IntKind.i64], [D.int IntKind.i64 x3])]) fun o1_ => bif true && D.isInt IntKind.i64 (List.getD (List.getD (Out.rows o1_) 0 []) 0 D.junk) then bif Nat.beq (List.length
  (List.getD (Out.rows o1_) 0 [])) 1 then bif Out.ok o1_ then bif V.isOne (Out.val o1_) then bif X.isD (X.cell (Out.val o1_) 0) && D.isBool (X.dd (X.cell (Out.val o1_) 0)) then bif Nat.beq
  (Out.m o1_) 0 && true then bif D.bit (X.dd (X.cell (Out.val o1_) 0)) then some (Out.mk true (V.one (X.d (D.int IntKind.i64 x2))) D.junk [[D.int IntKind.i64 (D.num (List.getD (List.getD
  (Out.rows o1_) 0 []) 0 D.junk))]] 0) else q84_1 Γ n1 n2 z3 r0 x1 x2 (D.num (List.getD (List.getD (Out.rows o1_) 0 []) 0 D.junk)) else none else none else none else some (Out.mk false V.junk
  (Out.pv o1_) [[D.int IntKind.i64 (D.num (List.getD (List.getD (Out.rows o1_) 0 []) 0 D.junk))]] 0) else none else none else none := (Jn_step ..).trans (by kernel_rfl)
theorem q84_2_eq (Γ : SemL) (n1 : Nat) (z2 : Int) (x0 : Int) : q84_2 Γ n1 z2 x0 = some (Out.mk true (V.one (X.d (D.int IntKind.i64 (-1)))) D.junk [[D.int IntKind.i64 x0]] 0) := (Jn_step
  ..).trans (by kernel_rfl)
theorem q43_5_eq (Γ : SemL) (n1 : Nat) (n2 : Nat) (x0 : Int) (s1 : ByteArray) (s2 : ByteArray) (x3 : Int) (x4 : Int) (x5 : Int) (r6 : List (List D)) : q43_5 Γ n1 n2 x0 s1 s2 x3 x4 x5 r6 =
  r_t2oSoB (Γ 65 [V.one (X.d (D.str s2)), V.one (X.d (D.str s1))] []) [] fun u1_ c2_ => bif c2_ then some (Out.mk true (V.tup [V.agg [X.d (D.int IntKind.i64 x4), X.d (D.list 2 [[D.int
  IntKind.i64 x5, D.list 2 r6]])], V.one (X.d (D.str u1_)), V.one (X.d (D.bool true))]) D.junk [] 0) else q43_6 Γ n1 n2 x0 s1 s2 x3 x4 [[D.int IntKind.i64 x5, D.list 2 r6]] := (Jn_step
  ..).trans (by kernel_rfl)
theorem q49_0_v1_eq (Γ : SemL) (n1 : Nat) (n2 : Nat) (r0 : List (List D)) (s1 : ByteArray) (x2 : Int) : q49_0_v1 Γ n1 n2 r0 s1 x2 = bif decide (x2 > 0) then bif Nat.ble (ByteArray.size s1 +
  2) 9223372036854775807 then q49_1_v1 Γ n1 n2 r0 (s1 ++ ByteArray.mk #[44, 32]) x2 else none else q49_1_v1 Γ n1 n2 r0 s1 x2 := (Jn_step ..).trans (by kernel_rfl)
theorem e68_eq (Γ : SemL) (n1 : Nat) (x0 : Int) (r1 : List (List D)) (x2 : Int) : e68 Γ n1 x0 r1 x2 = r_oB (Γ 45 [V.agg [X.d (D.int IntKind.i64 x0), X.d (D.list 2 r1)], V.one (X.d (D.int
  IntKind.i64 (IntKind.wrap IntKind.i64 (x2 - 1))))] []) [[D.int IntKind.i64 x2]] fun c1_ => some (Out.mk true (V.one (X.d (D.bool !c1_))) D.junk [[D.int IntKind.i64 x2]] 0) := (run_step
  ..).trans (by kernel_rfl)
theorem q84_1_eq (Γ : SemL) (n1 : Nat) (n2 : Nat) (z3 : Int) (r0 : List (List D)) (x1 : Int) (x2 : Int) (x3 : Int) : q84_1 Γ n1 n2 z3 r0 x1 x2 x3 = l84_0 n1 Γ n2 z3 r0 x1 (IntKind.wrap
  IntKind.i64 (x2 + 1)) x3 := (Jn_step ..).trans (by kernel_rfl)
theorem q43_6_eq (Γ : SemL) (n1 : Nat) (n2 : Nat) (x0 : Int) (s1 : ByteArray) (s2 : ByteArray) (x3 : Int) (x4 : Int) (r5 : List (List D)) : q43_6 Γ n1 n2 x0 s1 s2 x3 x4 r5 = r_t2oSoB (Γ 65
  [V.one (X.d (D.str s2)), V.one (X.d (D.str (ByteArray.mk #[44, 32])))] []) [] fun u1_ c2_ => l43_0_v1 n1 Γ n2 x0 s1 u1_ c2_ x3 x4 r5 := (Jn_step ..).trans (by kernel_rfl)
theorem q49_1_v1_eq (Γ : SemL) (n1 : Nat) (n2 : Nat) (r0 : List (List D)) (s1 : ByteArray) (x2 : Int) : q49_1_v1 Γ n1 n2 r0 s1 x2 = bif decide (0 ≤ x2) && decide (x2 < Int.ofNat (List.length
  r0)) then bif D.isStr (List.getD (List.getD r0 (Int.toNat x2) []) 0 D.junk) then bif Nat.ble (ByteArray.size s1 + ByteArray.size (D.bytes (List.getD (List.getD r0 (Int.toNat x2) []) 0
  D.junk))) 9223372036854775807 then q49_2 Γ n1 n2 r0 (s1 ++ D.bytes (List.getD (List.getD r0 (Int.toNat x2) []) 0 D.junk)) x2 else none else none else none := (Jn_step ..).trans (by
  kernel_rfl)
theorem l43_0_v1_eq (n0 : Nat) (Γ : SemL) (n2 : Nat) (x0 : Int) (s1 : ByteArray) (s2 : ByteArray) (b3 : Bool) (x4 : Int) (x5 : Int) (r6 : List (List D)) : l43_0_v1 (n0 + 1) Γ n2 x0 s1 s2 b3
  x4 x5 r6 = bif b3 then q43_4_v1 Γ n0 n2 x0 s1 s2 x4 x5 r6 else q43_7 Γ n2 x4 := (loop_step ..).trans (by kernel_rfl)
theorem q49_2_eq (Γ : SemL) (n1 : Nat) (n2 : Nat) (r0 : List (List D)) (s1 : ByteArray) (x2 : Int) : q49_2 Γ n1 n2 r0 s1 x2 = l49_0_v1 n1 Γ n2 r0 s1 (IntKind.wrap IntKind.i64 (x2 + 1)) :=
  (Jn_step ..).trans (by kernel_rfl)
theorem q43_4_v1_eq (Γ : SemL) (n1 : Nat) (n2 : Nat) (x0 : Int) (s1 : ByteArray) (s2 : ByteArray) (x3 : Int) (x4 : Int) (r5 : List (List D)) : q43_4_v1 Γ n1 n2 x0 s1 s2 x3 x4 r5 =
  r_t3a2IL2oSoB (Γ 43 [V.one (X.d (D.str s2)), V.one (X.d (D.int IntKind.i64 (IntKind.wrap IntKind.i64 (x0 - 1))))] []) [] fun i1_ w2_ u3_ c4_ => bif !c4_ then q43_7 Γ n2 x3 else q43_5_v1 Γ
  n1 n2 x0 s1 u3_ x3 x4 r5 i1_ w2_ := (Jn_step ..).trans (by kernel_rfl)
theorem q43_5_v1_eq (Γ : SemL) (n1 : Nat) (n2 : Nat) (x0 : Int) (s1 : ByteArray) (s2 : ByteArray) (x3 : Int) (x4 : Int) (r5 : List (List D)) (x6 : Int) (r7 : List (List D)) : q43_5_v1 Γ n1 n2
  x0 s1 s2 x3 x4 r5 x6 r7 = bif true && true && true && Nat.ble ((List.length r5 + List.length [[D.int IntKind.i64 x6, D.list 2 r7]]) * 33) 140737488355328 then r_t2oSoB (Γ 65 [V.one (X.d
  (D.str s2)), V.one (X.d (D.str s1))] []) [] fun u1_ c2_ => bif c2_ then some (Out.mk true (V.tup [V.agg [X.d (D.int IntKind.i64 x4), X.d (D.list 2 (r5 ++ [[D.int IntKind.i64 x6, D.list 2
  r7]]))], V.one (X.d (D.str u1_)), V.one (X.d (D.bool true))]) D.junk [] 0) else q43_6 Γ n1 n2 x0 s1 s2 x3 x4 (r5 ++ [[D.int IntKind.i64 x6, D.list 2 r7]]) else none := (Jn_step ..).trans
  (by kernel_rfl)
theorem call16 (k : Nat) (x0 : Int) (r1 : List (List D)) : Ak (k + 1) 16 [V.agg [X.d (D.int IntKind.i64 x0), X.d (D.list 2 r1)]] [] = e16 (Ak k) k x0 r1 := call_step (by kernel_rfl) rfl
theorem call14 (k : Nat) (s0 : ByteArray) : Ak (k + 1) 14 [V.one (X.d (D.str s0))] [] = e14 (Ak k) k s0 := call_step (by kernel_rfl) rfl
theorem call15 (k : Nat) (s0 : ByteArray) : Ak (k + 1) 15 [V.one (X.d (D.str s0))] [] = e15 (Ak k) k s0 := call_step (by kernel_rfl) rfl
theorem call17 (k : Nat) (x0 : Int) (r1 : List (List D)) : Ak (k + 1) 17 [V.agg [X.d (D.int IntKind.i64 x0), X.d (D.list 2 r1)]] [] = e17 (Ak k) k x0 r1 := call_step (by kernel_rfl) rfl
theorem call18 (k : Nat) (x0 : Int) (r1 : List (List D)) (x2 : Int) (r3 : List (List D)) : Ak (k + 1) 18 [V.agg [X.d (D.int IntKind.i64 x0), X.d (D.list 2 r1)], V.agg [X.d (D.int IntKind.i64
  x2), X.d (D.list 2 r3)]] [] = e18 (Ak k) k x0 r1 x2 r3 := call_step (by kernel_rfl) rfl
theorem call19 (k : Nat) (x0 : Int) (r1 : List (List D)) (x2 : Int) (r3 : List (List D)) : Ak (k + 1) 19 [V.agg [X.d (D.int IntKind.i64 x0), X.d (D.list 2 r1)], V.agg [X.d (D.int IntKind.i64
  x2), X.d (D.list 2 r3)]] [] = e19 (Ak k) k x0 r1 x2 r3 := call_step (by kernel_rfl) rfl
theorem call20 (k : Nat) (x0 : Int) (r1 : List (List D)) : Ak (k + 1) 20 [V.agg [X.d (D.int IntKind.i64 x0), X.d (D.list 2 r1)]] [] = e20 (Ak k) k x0 r1 := call_step (by kernel_rfl) rfl
theorem call21 (k : Nat) (x0 : Int) (r1 : List (List D)) : Ak (k + 1) 21 [V.agg [X.d (D.int IntKind.i64 x0), X.d (D.list 2 r1)]] [] = e21 (Ak k) k x0 r1 := call_step (by kernel_rfl) rfl
theorem call22 (k : Nat) (x0 : Int) (r1 : List (List D)) (x2 : Int) (r3 : List (List D)) : Ak (k + 1) 22 [V.agg [X.d (D.int IntKind.i64 x0), X.d (D.list 2 r1)], V.agg [X.d (D.int IntKind.i64
  x2), X.d (D.list 2 r3)]] [] = e22 (Ak k) k x0 r1 x2 r3 := call_step (by kernel_rfl) rfl
theorem call45 (k : Nat) (x0 : Int) (r1 : List (List D)) (x2 : Int) : Ak (k + 1) 45 [V.agg [X.d (D.int IntKind.i64 x0), X.d (D.list 2 r1)], V.one (X.d (D.int IntKind.i64 x2))] [] = e45 (Ak k)
  k x0 r1 x2 := call_step (by kernel_rfl) rfl
theorem call22_v1 (k : Nat) (x0 : Int) (r1 : List (List D)) (x2 : Int) : Ak (k + 1) 22 [V.agg [X.d (D.int IntKind.i64 x0), X.d (D.list 2 r1)], V.agg [X.d (D.int IntKind.i64 x2), X.nilL 2]] []
  = e22_v1 (Ak k) k x0 r1 x2 := call_step (by kernel_rfl) rfl
theorem call43 (k : Nat) (s0 : ByteArray) (x1 : Int) : Ak (k + 1) 43 [V.one (X.d (D.str s0)), V.one (X.d (D.int IntKind.i64 x1))] [] = e43 (Ak k) k s0 x1 := call_step (by kernel_rfl) rfl
theorem call44 (k : Nat) (s0 : ByteArray) (x1 : Int) (x2 : Int) : Ak (k + 1) 44 [V.one (X.d (D.str s0)), V.one (X.d (D.int IntKind.i64 x1)), V.one (X.d (D.int IntKind.i64 x2))] [] = e44 (Ak
  k) k s0 x1 x2 := call_step (by kernel_rfl) rfl
theorem call46 (k : Nat) (x0 : Int) (r1 : List (List D)) (x2 : Int) : Ak (k + 1) 46 [V.agg [X.d (D.int IntKind.i64 x0), X.d (D.list 2 r1)], V.one (X.d (D.int IntKind.i64 x2))] [] = e46 (Ak k)
  k x0 r1 x2 := call_step (by kernel_rfl) rfl
theorem call47 (k : Nat) (r0 : List (List D)) (r1 : List (List D)) : Ak (k + 1) 47 [V.one (X.d (D.list 2 r0)), V.one (X.d (D.list 2 r1)), V.one (X.fn 18 [])] [] = e47 (Ak k) k r0 r1 :=
  call_step (by kernel_rfl) rfl
theorem call66 (k : Nat) (s0 : ByteArray) (x1 : Int) (s2 : ByteArray) : Ak (k + 1) 66 [V.one (X.d (D.str s0)), V.one (X.d (D.int IntKind.i64 x1)), V.one (X.d (D.str s2))] [] = e66 (Ak k) k s0
  x1 s2 := call_step (by kernel_rfl) rfl
theorem call65 (k : Nat) (s0 : ByteArray) (s1 : ByteArray) : Ak (k + 1) 65 [V.one (X.d (D.str s0)), V.one (X.d (D.str s1))] [] = e65 (Ak k) k s0 s1 := call_step (by kernel_rfl) rfl
theorem call49 (k : Nat) : Ak (k + 1) 49 [V.one (X.nilL 1)] [] = e49 (Ak k) k := call_step (by kernel_rfl) rfl
theorem call83 (k : Nat) (s0 : ByteArray) (s1 : ByteArray) : Ak (k + 1) 83 [V.one (X.d (D.str s0)), V.one (X.d (D.str s1))] [] = e83 (Ak k) k s0 s1 := call_step (by kernel_rfl) rfl
theorem call67 (k : Nat) (r0 : List (List D)) (x1 : Int) : Ak (k + 1) 67 [V.one (X.d (D.list 2 r0)), V.one (X.fn 68 [X.ptr 0 0])] [([Lf.int IntKind.i64], [D.int IntKind.i64 x1])] = e67 (Ak k)
  k r0 x1 := call_step (by kernel_rfl) rfl
theorem call22_v2 (k : Nat) (x0 : Int) (r1 : List (List D)) : Ak (k + 1) 22 [V.agg [X.d (D.int IntKind.i64 x0), X.d (D.list 2 r1)], V.agg [X.d D.junk, X.d D.junk]] [] = e22_v2 (Ak k) k x0 r1
  := call_step (by kernel_rfl) rfl
theorem call91 (k : Nat) (s0 : ByteArray) (s1 : ByteArray) : Ak (k + 1) 91 [V.one (X.d (D.str s0)), V.one (X.d (D.str s1))] [] = e91 (Ak k) k s0 s1 := call_step (by kernel_rfl) rfl
theorem call84 (k : Nat) (r0 : List (List D)) (x1 : Int) : Ak (k + 1) 84 [V.one (X.d (D.list 2 r0)), V.one (X.fn 68 [X.ptr 0 0])] [([Lf.int IntKind.i64], [D.int IntKind.i64 x1])] = e84 (Ak k)
  k r0 x1 := call_step (by kernel_rfl) rfl
theorem call49_v1 (k : Nat) (r0 : List (List D)) : Ak (k + 1) 49 [V.one (X.d (D.list 1 r0))] [] = e49_v1 (Ak k) k r0 := call_step (by kernel_rfl) rfl
theorem call68 (k : Nat) (x0 : Int) (r1 : List (List D)) (x2 : Int) : Ak (k + 1) 68 [V.agg [X.d (D.int IntKind.i64 x0), X.d (D.list 2 r1)], V.one (X.ptr 0 0)] [([Lf.int IntKind.i64], [D.int
  IntKind.i64 x2])] = e68 (Ak k) k x0 r1 x2 := call_step (by kernel_rfl) rfl
end Go.Proofs.YtkpdofiflhjahaaDoor.Ps
