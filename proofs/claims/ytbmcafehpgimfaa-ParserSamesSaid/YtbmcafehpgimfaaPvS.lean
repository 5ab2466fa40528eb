/- What the pieces of the functions do, as functions of their data. Printed by pack4.py. -/
import Derived.Test.YtbmcafehpgimfaaPv0
namespace Go.Proofs.Ytbmcafehpgimfaa.Ps
set_option maxHeartbeats 0
set_option maxRecDepth 100000
set_option linter.unusedVariables false
open Go Go.RowKit
open Go.IntKind renaming i64 → iK, u8 → uK
noncomputable def e15 (Γ : Bool → SemL) (n1 : Nat) (x0 x1 : Int) (s2 : ByteArray) (r3 r4 r5 : List (List D)) (x6 x7 x8 x9 : Int) (s10 : ByteArray) (r11 r12 r13 : List (List D)) (x14 x15 : Int) : Option Out := runF Γ shp rc false (shp 15) sf15 n1 [V.agg [X.d (D.int
  iK x0), X.d (D.int iK x1), X.d (D.str s2), X.d (D.list 1 r3), X.d (D.list 1 r4), X.d (D.list 8 r5), X.d (D.int iK x6), X.d (D.int iK x7)], V.agg [X.d
  (D.int iK x8), X.d (D.int iK x9), X.d (D.str s10), X.d (D.list 1 r11), X.d (D.list 1 r12), X.d (D.list 8 r13), X.d (D.int iK x14), X.d (D.int iK x15)]]
  []
noncomputable def e17 (Γ : Bool → SemL) (n1 : Nat) (r0 r1 : List (List D)) (x2 x3 : Int) (s4 : ByteArray) (r5 r6 r7 : List (List D)) (x8 x9 : Int) (r10 r11 : List (List D)) (x12 x13 : Int) (s14 : ByteArray) (r15 r16 r17 : List (List D)) (x18 x19 : Int) : Option Out := runF Γ shp rc false (shp 17) sf17 n1 [V.agg [X.d (D.list 5 r0), X.d (D.list 14 r1), X.d (D.int iK x2), X.d (D.int iK x3), X.d (D.str s4), X.d
  (D.list 1 r5), X.d (D.list 1 r6), X.d (D.list 8 r7), X.d (D.int iK x8), X.d (D.int iK x9)], V.agg [X.d (D.list 5 r10), X.d (D.list 14 r11), X.d (D.int iK x12),
  X.d (D.int iK x13), X.d (D.str s14), X.d (D.list 1 r15), X.d (D.list 1 r16), X.d (D.list 8 r17), X.d (D.int iK x18), X.d (D.int iK x19)]] []
noncomputable def e32 (Γ : Bool → SemL) (n1 : Nat) (r0 r1 : List (List D)) : Option Out := runF Γ shp rc false (shp 32) sf32 n1 [V.one (X.d (D.list 1 r0)), V.one (X.d
  (D.list 1 r1))] []
noncomputable def e33 (Γ : Bool → SemL) (n1 : Nat) (r0 r1 : List (List D)) : Option Out := runF Γ shp rc false (shp 33) sf33 n1 [V.one (X.d (D.list 1 r0)), V.one (X.d
  (D.list 1 r1))] []
noncomputable def e34f15 (Γ : Bool → SemL) (n1 : Nat) (r0 r1 : List (List D)) : Option Out := runF Γ shp rc false (shp 34) sf34 n1 [V.one (X.d (D.list 8 r0)), V.one (X.d
  (D.list 8 r1)), V.one (X.fn 15 [])] []
noncomputable def e37f38 (Γ : Bool → SemL) (n1 : Nat) (r0 r1 : List (List D)) : Option Out := runF Γ shp rc false (shp 37) sf37 n1 [V.one (X.d (D.list 5 r0)), V.one (X.d
  (D.list 5 r1)), V.one (X.fn 38 [])] []
noncomputable def e39f40 (Γ : Bool → SemL) (n1 : Nat) (r0 r1 : List (List D)) : Option Out := runF Γ shp rc false (shp 39) sf39 n1 [V.one (X.d (D.list 14 r0)), V.one (X.d
  (D.list 14 r1)), V.one (X.fn 40 [])] []
noncomputable def q32_0 (Γ : Bool → SemL) (n1 : Nat) (r0 r1 : List (List D)) : Option Out := Jn (Γ false) shp n1 j32_0 (St.mk [(0, V.one (X.d (D.list 1 r0))), (1, V.one (X.d
  (D.list 1 r1)))] [] [] 0 0 0 []) (finK (Γ true) rc false (shp 32) (SFunc.results sf32) 0)
noncomputable def q33_0 (Γ : Bool → SemL) (n1 : Nat) (r0 r1 : List (List D)) : Option Out := Jn (Γ false) shp n1 j33_0 (St.mk [(0, V.one (X.d (D.list 1 r0))), (1, V.one (X.d
  (D.list 1 r1)))] [] [] 0 0 0 []) (finK (Γ true) rc false (shp 33) (SFunc.results sf33) 0)
noncomputable def q34_0 (Γ : Bool → SemL) (n1 : Nat) (r0 r1 : List (List D)) : Option Out := Jn (Γ false) shp n1 j34_0 (St.mk [(0, V.one (X.d (D.list 8 r0))), (1, V.one (X.d
  (D.list 8 r1))), (2, V.one (X.fn 15 []))] [] [] 0 0 0 []) (finK (Γ true) rc false (shp 34) (SFunc.results sf34) 0)
noncomputable def q37_0 (Γ : Bool → SemL) (n1 : Nat) (r0 r1 : List (List D)) : Option Out := Jn (Γ false) shp n1 j37_0 (St.mk [(0, V.one (X.d (D.list 5 r0))), (1, V.one (X.d
  (D.list 5 r1))), (2, V.one (X.fn 38 []))] [] [] 0 0 0 []) (finK (Γ true) rc false (shp 37) (SFunc.results sf37) 0)
noncomputable def q39_0 (Γ : Bool → SemL) (n1 : Nat) (r0 r1 : List (List D)) : Option Out := Jn (Γ false) shp n1 j39_0 (St.mk [(0, V.one (X.d (D.list 14 r0))), (1, V.one
  (X.d (D.list 14 r1))), (2, V.one (X.fn 40 []))] [] [] 0 0 0 []) (finK (Γ true) rc false (shp 39) (SFunc.results sf39) 0)
noncomputable def l32_0 (n0 : Nat) (Γ : Bool → SemL) (n2 : Nat) (r0 r1 : List (List D)) (x2 x3 : Int) : Option Out := loopK (Γ false) shp n0 [0, 1, 12, 13] lb32_0
  (St.mk [(0, V.one (X.d (D.list 1 r0))), (1, V.one (X.d (D.list 1 r1))), (12, V.one (X.d (D.int iK x2))), (13, V.one (X.d (D.int iK x3)))] [] [] 0 0 0 []) (kBlk 0 (kSeq
  (some []) (fun s K => Jn (Γ false) shp n2 j32_3 s K) (finK (Γ true) rc false (shp 32) (SFunc.results sf32) 0)))
noncomputable def l33_0 (n0 : Nat) (Γ : Bool → SemL) (n2 : Nat) (r0 r1 : List (List D)) (x2 x3 : Int) : Option Out := loopK (Γ false) shp n0 [0, 1, 12, 13] lb33_0
  (St.mk [(0, V.one (X.d (D.list 1 r0))), (1, V.one (X.d (D.list 1 r1))), (12, V.one (X.d (D.int iK x2))), (13, V.one (X.d (D.int iK x3)))] [] [] 0 0 0 []) (kBlk 0 (kSeq
  (some []) (fun s K => Jn (Γ false) shp n2 j33_3 s K) (finK (Γ true) rc false (shp 33) (SFunc.results sf33) 0)))
noncomputable def l34_0 (n0 : Nat) (Γ : Bool → SemL) (n2 : Nat) (r0 r1 : List (List D)) (x2 x3 : Int) : Option Out := loopK (Γ false) shp n0 [1, 2, 15, 16, 17]
  lb34_0 (St.mk [(1, V.one (X.d (D.list 8 r0))), (2, V.one (X.fn 15 [])), (15, V.one (X.d (D.list 8 r1))), (16, V.one (X.d (D.int iK x2))), (17, V.one (X.d (D.int iK x3)))]
  [] [] 0 0 0 []) (kBlk 0 (kSeq (some []) (fun s K => Jn (Γ false) shp n2 j34_3 s K) (finK (Γ true) rc false (shp 34) (SFunc.results sf34) 0)))
noncomputable def l37_0 (n0 : Nat) (Γ : Bool → SemL) (n2 : Nat) (r0 r1 : List (List D)) (x2 x3 : Int) : Option Out := loopK (Γ false) shp n0 [1, 2, 15, 16, 17]
  lb37_0 (St.mk [(1, V.one (X.d (D.list 5 r0))), (2, V.one (X.fn 38 [])), (15, V.one (X.d (D.list 5 r1))), (16, V.one (X.d (D.int iK x2))), (17, V.one (X.d (D.int iK x3)))]
  [] [] 0 0 0 []) (kBlk 0 (kSeq (some []) (fun s K => Jn (Γ false) shp n2 j37_3 s K) (finK (Γ true) rc false (shp 37) (SFunc.results sf37) 0)))
noncomputable def l39_0 (n0 : Nat) (Γ : Bool → SemL) (n2 : Nat) (r0 r1 : List (List D)) (x2 x3 : Int) : Option Out := loopK (Γ false) shp n0 [1, 2, 15, 16, 17]
  lb39_0 (St.mk [(1, V.one (X.d (D.list 14 r0))), (2, V.one (X.fn 40 [])), (15, V.one (X.d (D.list 14 r1))), (16, V.one (X.d (D.int iK x2))), (17, V.one (X.d (D.int iK
  x3)))] [] [] 0 0 0 []) (kBlk 0 (kSeq (some []) (fun s K => Jn (Γ false) shp n2 j39_3 s K) (finK (Γ true) rc false (shp 39) (SFunc.results sf39) 0)))
noncomputable def q32_1 (Γ : Bool → SemL) (n1 : Nat) (n2 : Nat) (r0 r1 : List (List D)) (x2 x3 : Int) : Option Out := Jn (Γ false) shp n1 j32_1 (St.mk [(0, V.one
  (X.d (D.list 1 r0))), (1, V.one (X.d (D.list 1 r1))), (12, V.one (X.d (D.int iK x2))), (13, V.one (X.d (D.int iK x3)))] [] [] 0 0 0 []) (kLoop (loopK (Γ false) shp n1) [0,
  1, 12, 13] lb32_0 (kBlk 0 (kSeq (some []) (fun s K => Jn (Γ false) shp n2 j32_3 s K) (finK (Γ true) rc false (shp 32) (SFunc.results sf32) 0))))
noncomputable def q32_3 (Γ : Bool → SemL) (n1 : Nat) : Option Out := Jn (Γ false) shp n1 j32_3 (St.mk [] [] [] 0 0 0 []) (finK (Γ true) rc false (shp 32) (SFunc.results sf32) 0)
noncomputable def q33_1 (Γ : Bool → SemL) (n1 : Nat) (n2 : Nat) (r0 r1 : List (List D)) (x2 x3 : Int) : Option Out := Jn (Γ false) shp n1 j33_1 (St.mk [(0, V.one
  (X.d (D.list 1 r0))), (1, V.one (X.d (D.list 1 r1))), (12, V.one (X.d (D.int iK x2))), (13, V.one (X.d (D.int iK x3)))] [] [] 0 0 0 []) (kLoop (loopK (Γ false) shp n1) [0,
  1, 12, 13] lb33_0 (kBlk 0 (kSeq (some []) (fun s K => Jn (Γ false) shp n2 j33_3 s K) (finK (Γ true) rc false (shp 33) (SFunc.results sf33) 0))))
noncomputable def q33_3 (Γ : Bool → SemL) (n1 : Nat) : Option Out := Jn (Γ false) shp n1 j33_3 (St.mk [] [] [] 0 0 0 []) (finK (Γ true) rc false (shp 33) (SFunc.results sf33) 0)
noncomputable def q34_1 (Γ : Bool → SemL) (n1 : Nat) (n2 : Nat) (r0 r1 : List (List D)) (x2 x3 : Int) : Option Out := Jn (Γ false) shp n1 j34_1 (St.mk [(1, V.one
  (X.d (D.list 8 r0))), (2, V.one (X.fn 15 [])), (15, V.one (X.d (D.list 8 r1))), (16, V.one (X.d (D.int iK x2))), (17, V.one (X.d (D.int iK x3)))] [] [] 0 0 0 []) (kLoop
  (loopK (Γ false) shp n1) [1, 2, 15, 16, 17] lb34_0 (kBlk 0 (kSeq (some []) (fun s K => Jn (Γ false) shp n2 j34_3 s K) (finK (Γ true) rc false (shp 34) (SFunc.results sf34) 0))))
noncomputable def q34_3 (Γ : Bool → SemL) (n1 : Nat) : Option Out := Jn (Γ false) shp n1 j34_3 (St.mk [] [] [] 0 0 0 []) (finK (Γ true) rc false (shp 34) (SFunc.results sf34) 0)
noncomputable def q37_1 (Γ : Bool → SemL) (n1 : Nat) (n2 : Nat) (r0 r1 : List (List D)) (x2 x3 : Int) : Option Out := Jn (Γ false) shp n1 j37_1 (St.mk [(1, V.one
  (X.d (D.list 5 r0))), (2, V.one (X.fn 38 [])), (15, V.one (X.d (D.list 5 r1))), (16, V.one (X.d (D.int iK x2))), (17, V.one (X.d (D.int iK x3)))] [] [] 0 0 0 []) (kLoop
  (loopK (Γ false) shp n1) [1, 2, 15, 16, 17] lb37_0 (kBlk 0 (kSeq (some []) (fun s K => Jn (Γ false) shp n2 j37_3 s K) (finK (Γ true) rc false (shp 37) (SFunc.results sf37) 0))))
noncomputable def q37_3 (Γ : Bool → SemL) (n1 : Nat) : Option Out := Jn (Γ false) shp n1 j37_3 (St.mk [] [] [] 0 0 0 []) (finK (Γ true) rc false (shp 37) (SFunc.results sf37) 0)
noncomputable def q39_1 (Γ : Bool → SemL) (n1 : Nat) (n2 : Nat) (r0 r1 : List (List D)) (x2 x3 : Int) : Option Out := Jn (Γ false) shp n1 j39_1 (St.mk [(1, V.one
  (X.d (D.list 14 r0))), (2, V.one (X.fn 40 [])), (15, V.one (X.d (D.list 14 r1))), (16, V.one (X.d (D.int iK x2))), (17, V.one (X.d (D.int iK x3)))] [] [] 0 0 0 []) (kLoop
  (loopK (Γ false) shp n1) [1, 2, 15, 16, 17] lb39_0 (kBlk 0 (kSeq (some []) (fun s K => Jn (Γ false) shp n2 j39_3 s K) (finK (Γ true) rc false (shp 39) (SFunc.results sf39) 0))))
noncomputable def q39_3 (Γ : Bool → SemL) (n1 : Nat) : Option Out := Jn (Γ false) shp n1 j39_3 (St.mk [] [] [] 0 0 0 []) (finK (Γ true) rc false (shp 39) (SFunc.results sf39) 0)
noncomputable def q32_2 (Γ : Bool → SemL) (n1 : Nat) (n2 : Nat) (r0 r1 : List (List D)) (x2 x3 : Int) : Option Out := Jn (Γ false) shp n1 j32_2 (St.mk [(0, V.one
  (X.d (D.list 1 r0))), (1, V.one (X.d (D.list 1 r1))), (12, V.one (X.d (D.int iK x2))), (13, V.one (X.d (D.int iK x3)))] [] [] 0 0 0 []) (kLoop (loopK (Γ false) shp n1) [0,
  1, 12, 13] lb32_0 (kBlk 0 (kSeq (some []) (fun s K => Jn (Γ false) shp n2 j32_3 s K) (finK (Γ true) rc false (shp 32) (SFunc.results sf32) 0))))
noncomputable def q33_2 (Γ : Bool → SemL) (n1 : Nat) (n2 : Nat) (r0 r1 : List (List D)) (x2 x3 : Int) : Option Out := Jn (Γ false) shp n1 j33_2 (St.mk [(0, V.one
  (X.d (D.list 1 r0))), (1, V.one (X.d (D.list 1 r1))), (12, V.one (X.d (D.int iK x2))), (13, V.one (X.d (D.int iK x3)))] [] [] 0 0 0 []) (kLoop (loopK (Γ false) shp n1) [0,
  1, 12, 13] lb33_0 (kBlk 0 (kSeq (some []) (fun s K => Jn (Γ false) shp n2 j33_3 s K) (finK (Γ true) rc false (shp 33) (SFunc.results sf33) 0))))
noncomputable def q34_2 (Γ : Bool → SemL) (n1 : Nat) (n2 : Nat) (r0 r1 : List (List D)) (x2 x3 : Int) : Option Out := Jn (Γ false) shp n1 j34_2 (St.mk [(1, V.one
  (X.d (D.list 8 r0))), (2, V.one (X.fn 15 [])), (15, V.one (X.d (D.list 8 r1))), (16, V.one (X.d (D.int iK x2))), (17, V.one (X.d (D.int iK x3)))] [] [] 0 0 0 []) (kLoop
  (loopK (Γ false) shp n1) [1, 2, 15, 16, 17] lb34_0 (kBlk 0 (kSeq (some []) (fun s K => Jn (Γ false) shp n2 j34_3 s K) (finK (Γ true) rc false (shp 34) (SFunc.results sf34) 0))))
noncomputable def e38 (Γ : Bool → SemL) (n1 : Nat) (s0 : ByteArray) (x1 : Int) (r2 : List (List D)) (x3 x4 : Int) (s5 : ByteArray) (x6 : Int) (r7 : List (List D)) (x8 x9 : Int) : Option Out := runF Γ shp rc false (shp 38) sf38 n1 [V.agg [X.d (D.str s0), X.d (D.int iK x1), X.d (D.list 2 r2), X.d (D.int iK x3), X.d (D.int iK x4)],
  V.agg [X.d (D.str s5), X.d (D.int iK x6), X.d (D.list 2 r7), X.d (D.int iK x8), X.d (D.int iK x9)]] []
noncomputable def q37_2 (Γ : Bool → SemL) (n1 : Nat) (n2 : Nat) (r0 r1 : List (List D)) (x2 x3 : Int) : Option Out := Jn (Γ false) shp n1 j37_2 (St.mk [(1, V.one
  (X.d (D.list 5 r0))), (2, V.one (X.fn 38 [])), (15, V.one (X.d (D.list 5 r1))), (16, V.one (X.d (D.int iK x2))), (17, V.one (X.d (D.int iK x3)))] [] [] 0 0 0 []) (kLoop
  (loopK (Γ false) shp n1) [1, 2, 15, 16, 17] lb37_0 (kBlk 0 (kSeq (some []) (fun s K => Jn (Γ false) shp n2 j37_3 s K) (finK (Γ true) rc false (shp 37) (SFunc.results sf37) 0))))
noncomputable def e40 (Γ : Bool → SemL) (n1 : Nat) (s0 : ByteArray) (r1 : List (List D)) (x2 : Int) (r3 : List (List D)) (x4 x5 : Int) (s6 : ByteArray) (r7 r8 r9 : List (List D)) (x10 x11 x12 x13 : Int) (s14 : ByteArray) (r15 : List (List D)) (x16 : Int) (r17 : List (List D)) (x18 x19 : Int) (s20 :
  ByteArray) (r21 r22 r23 : List (List D)) (x24 x25 x26 x27 : Int) : Option Out := runF Γ shp rc false (shp 40) sf40 n1 [V.agg [X.d
  (D.str s0), X.d (D.list 5 r1), X.d (D.int iK x2), X.d (D.list 2 r3), X.d (D.int iK x4), X.d (D.int iK x5), X.d (D.str s6), X.d (D.list 1 r7), X.d (D.list 1 r8),
  X.d (D.list 8 r9), X.d (D.int iK x10), X.d (D.int iK x11), X.d (D.int iK x12), X.d (D.int iK x13)], V.agg [X.d (D.str s14), X.d (D.list 5 r15), X.d
  (D.int iK x16), X.d (D.list 2 r17), X.d (D.int iK x18), X.d (D.int iK x19), X.d (D.str s20), X.d (D.list 1 r21), X.d (D.list 1 r22), X.d (D.list 8 r23), X.d
  (D.int iK x24), X.d (D.int iK x25), X.d (D.int iK x26), X.d (D.int iK x27)]] []
noncomputable def q39_2 (Γ : Bool → SemL) (n1 : Nat) (n2 : Nat) (r0 r1 : List (List D)) (x2 x3 : Int) : Option Out := Jn (Γ false) shp n1 j39_2 (St.mk [(1, V.one
  (X.d (D.list 14 r0))), (2, V.one (X.fn 40 [])), (15, V.one (X.d (D.list 14 r1))), (16, V.one (X.d (D.int iK x2))), (17, V.one (X.d (D.int iK x3)))] [] [] 0 0 0 []) (kLoop
  (loopK (Γ false) shp n1) [1, 2, 15, 16, 17] lb39_0 (kBlk 0 (kSeq (some []) (fun s K => Jn (Γ false) shp n2 j39_3 s K) (finK (Γ true) rc false (shp 39) (SFunc.results sf39) 0))))
noncomputable def e41 (Γ : Bool → SemL) (n1 : Nat) (x0 : Int) (r1 : List (List D)) (x2 : Int) (r3 : List (List D)) : Option Out := runF Γ shp rc false (shp 41) sf41 n1 [V.agg [X.d (D.int
  iK x0), X.d (D.list 2 r1)], V.agg [X.d (D.int iK x2), X.d (D.list 2 r3)]] []
noncomputable def e71f41 (Γ : Bool → SemL) (n1 : Nat) (r0 r1 : List (List D)) : Option Out := runF Γ shp rc false (shp 71) sf71 n1 [V.one (X.d (D.list 2 r0)), V.one (X.d
  (D.list 2 r1)), V.one (X.fn 41 [])] []
noncomputable def q71_0 (Γ : Bool → SemL) (n1 : Nat) (r0 r1 : List (List D)) : Option Out := Jn (Γ false) shp n1 j71_0 (St.mk [(0, V.one (X.d (D.list 2 r0))), (1, V.one (X.d
  (D.list 2 r1))), (2, V.one (X.fn 41 []))] [] [] 0 0 0 []) (finK (Γ true) rc false (shp 71) (SFunc.results sf71) 0)
noncomputable def l71_0 (n0 : Nat) (Γ : Bool → SemL) (n2 : Nat) (r0 r1 : List (List D)) (x2 x3 : Int) : Option Out := loopK (Γ false) shp n0 [1, 2, 15, 16, 17]
  lb71_0 (St.mk [(1, V.one (X.d (D.list 2 r0))), (2, V.one (X.fn 41 [])), (15, V.one (X.d (D.list 2 r1))), (16, V.one (X.d (D.int iK x2))), (17, V.one (X.d (D.int iK x3)))]
  [] [] 0 0 0 []) (kBlk 0 (kSeq (some []) (fun s K => Jn (Γ false) shp n2 j71_3 s K) (finK (Γ true) rc false (shp 71) (SFunc.results sf71) 0)))
noncomputable def q71_1 (Γ : Bool → SemL) (n1 : Nat) (n2 : Nat) (r0 r1 : List (List D)) (x2 x3 : Int) : Option Out := Jn (Γ false) shp n1 j71_1 (St.mk [(1, V.one
  (X.d (D.list 2 r0))), (2, V.one (X.fn 41 [])), (15, V.one (X.d (D.list 2 r1))), (16, V.one (X.d (D.int iK x2))), (17, V.one (X.d (D.int iK x3)))] [] [] 0 0 0 []) (kLoop
  (loopK (Γ false) shp n1) [1, 2, 15, 16, 17] lb71_0 (kBlk 0 (kSeq (some []) (fun s K => Jn (Γ false) shp n2 j71_3 s K) (finK (Γ true) rc false (shp 71) (SFunc.results sf71) 0))))
noncomputable def q71_3 (Γ : Bool → SemL) (n1 : Nat) : Option Out := Jn (Γ false) shp n1 j71_3 (St.mk [] [] [] 0 0 0 []) (finK (Γ true) rc false (shp 71) (SFunc.results sf71) 0)
noncomputable def q71_2 (Γ : Bool → SemL) (n1 : Nat) (n2 : Nat) (r0 r1 : List (List D)) (x2 x3 : Int) : Option Out := Jn (Γ false) shp n1 j71_2 (St.mk [(1, V.one
  (X.d (D.list 2 r0))), (2, V.one (X.fn 41 [])), (15, V.one (X.d (D.list 2 r1))), (16, V.one (X.d (D.int iK x2))), (17, V.one (X.d (D.int iK x3)))] [] [] 0 0 0 []) (kLoop
  (loopK (Γ false) shp n1) [1, 2, 15, 16, 17] lb71_0 (kBlk 0 (kSeq (some []) (fun s K => Jn (Γ false) shp n2 j71_3 s K) (finK (Γ true) rc false (shp 71) (SFunc.results sf71) 0))))
theorem e15_eq (Γ : Bool → SemL) (n1 : Nat) (x0 x1 : Int) (s2 : ByteArray) (r3 r4 r5 : List (List D)) (x6 x7 x8 x9 : Int)
  (s10 : ByteArray) (r11 r12 r13 : List (List D)) (x14 x15 : Int) : e15 Γ n1 x0 x1 s2 r3 r4 r5 x6 x7 x8 x9 s10 r11 r12 r13 x14 x15 = bif x0 == x8
  then bif x1 == x9 then bif beqL (Array.toList (ByteArray.data s2)) (Array.toList (ByteArray.data s10)) then r_oB (Γ false 32 [V.one (X.d (D.list 1 r3)), V.one (X.d (D.list 1 r11))] []) (fun
  c0_ => bif c0_ then r_oB (Γ false 33 [V.one (X.d (D.list 1 r4)), V.one (X.d (D.list 1 r12))] []) (fun c2_ => bif c2_ then r_oB (Γ false 34 [V.one (X.d (D.list 8 r5)), V.one (X.d (D.list 8
  r13)), V.one (X.fn 15 [])] []) (fun c4_ => some (Out.mk true (V.one (X.d (D.bool c4_))) D.junk [] 0)) fun d5_ => some (Out.mk false V.junk d5_ [] 0) else some (Out.mk true (V.one (X.d
  (D.bool false))) D.junk [] 0)) fun d3_ => some (Out.mk false V.junk d3_ [] 0) else some (Out.mk true (V.one (X.d (D.bool false))) D.junk [] 0)) fun d1_ => some (Out.mk false V.junk d1_ []
  0) else some (Out.mk true (V.one (X.d (D.bool false))) D.junk [] 0) else some (Out.mk true (V.one (X.d (D.bool false))) D.junk [] 0) else some (Out.mk true (V.one (X.d (D.bool false)))
  D.junk [] 0) := (run_step ..).trans (by kernel_rfl)
theorem e17_eq (Γ : Bool → SemL) (n1 : Nat) (r0 r1 : List (List D)) (x2 x3 : Int) (s4 : ByteArray) (r5 r6 r7 : List (List D)) (x8 x9 : Int) (r10 r11 : List (List D)) (x12 x13 : Int) (s14 : ByteArray) (r15 r16 r17 : List (List D)) (x18 x19 : Int) : e17 Γ n1 r0 r1 x2 x3 s4 r5 r6 r7 x8 x9 r10 r11 x12 x13 s14 r15 r16 r17 x18 x19 = r_oB (Γ false 37 [V.one (X.d (D.list 5 r0)), V.one (X.d (D.list 5 r10)), V.one (X.fn 38 [])] []) (fun
  c0_ => bif c0_ then r_oB (Γ false 39 [V.one (X.d (D.list 14 r1)), V.one (X.d (D.list 14 r11)), V.one (X.fn 40 [])] []) (fun c2_ => bif c2_ then r_oB (Γ false 15 [V.agg [X.d (D.int
  iK x2), X.d (D.int iK x3), X.d (D.str s4), X.d (D.list 1 r5), X.d (D.list 1 r6), X.d (D.list 8 r7), X.d (D.int iK x8), X.d (D.int iK x9)], V.agg [X.d
  (D.int iK x12), X.d (D.int iK x13), X.d (D.str s14), X.d (D.list 1 r15), X.d (D.list 1 r16), X.d (D.list 8 r17), X.d (D.int iK x18), X.d (D.int iK x19)]]
  []) (fun c4_ => some (Out.mk true (V.one (X.d (D.bool c4_))) D.junk [] 0)) fun d5_ => some (Out.mk false V.junk d5_ [] 0) else some (Out.mk true (V.one (X.d (D.bool false))) D.junk [] 0))
  fun d3_ => some (Out.mk false V.junk d3_ [] 0) else some (Out.mk true (V.one (X.d (D.bool false))) D.junk [] 0)) fun d1_ => some (Out.mk false V.junk d1_ [] 0) := (run_step ..).trans (by
  kernel_rfl)
theorem e32_eq (Γ : Bool → SemL) (n1 : Nat) (r0 r1 : List (List D)) : e32 Γ n1 r0 r1 = bif Int.ofNat (List.length r0) != Int.ofNat (List.length r1) then some (Out.mk true
  (V.one (X.d (D.bool false))) D.junk [] 0) else q32_0 Γ n1 r0 r1 := (run_step ..).trans (by kernel_rfl)
theorem e33_eq (Γ : Bool → SemL) (n1 : Nat) (r0 r1 : List (List D)) : e33 Γ n1 r0 r1 = bif Int.ofNat (List.length r0) != Int.ofNat (List.length r1) then some (Out.mk true
  (V.one (X.d (D.bool false))) D.junk [] 0) else q33_0 Γ n1 r0 r1 := (run_step ..).trans (by kernel_rfl)
theorem e34f15_eq (Γ : Bool → SemL) (n1 : Nat) (r0 r1 : List (List D)) : e34f15 Γ n1 r0 r1 = bif Int.ofNat (List.length r0) != Int.ofNat (List.length r1) then some (Out.mk
  true (V.one (X.d (D.bool false))) D.junk [] 0) else q34_0 Γ n1 r0 r1 := (run_step ..).trans (by kernel_rfl)
theorem e37f38_eq (Γ : Bool → SemL) (n1 : Nat) (r0 r1 : List (List D)) : e37f38 Γ n1 r0 r1 = bif Int.ofNat (List.length r0) != Int.ofNat (List.length r1) then some (Out.mk
  true (V.one (X.d (D.bool false))) D.junk [] 0) else q37_0 Γ n1 r0 r1 := (run_step ..).trans (by kernel_rfl)
theorem e39f40_eq (Γ : Bool → SemL) (n1 : Nat) (r0 r1 : List (List D)) : e39f40 Γ n1 r0 r1 = bif Int.ofNat (List.length r0) != Int.ofNat (List.length r1) then some (Out.mk
  true (V.one (X.d (D.bool false))) D.junk [] 0) else q39_0 Γ n1 r0 r1 := (run_step ..).trans (by kernel_rfl)
theorem q32_0_eq (Γ : Bool → SemL) (n1 : Nat) (r0 r1 : List (List D)) : q32_0 Γ n1 r0 r1 = l32_0 n1 Γ n1 r0 r1 (Int.ofNat (List.length r0)) 0 := (Jn_step ..).trans (by
  kernel_rfl)
theorem q33_0_eq (Γ : Bool → SemL) (n1 : Nat) (r0 r1 : List (List D)) : q33_0 Γ n1 r0 r1 = l33_0 n1 Γ n1 r0 r1 (Int.ofNat (List.length r0)) 0 := (Jn_step ..).trans (by
  kernel_rfl)
theorem q34_0_eq (Γ : Bool → SemL) (n1 : Nat) (r0 r1 : List (List D)) : q34_0 Γ n1 r0 r1 = l34_0 n1 Γ n1 r1 r0 (Int.ofNat (List.length r0)) 0 := (Jn_step ..).trans (by
  kernel_rfl)
theorem q37_0_eq (Γ : Bool → SemL) (n1 : Nat) (r0 r1 : List (List D)) : q37_0 Γ n1 r0 r1 = l37_0 n1 Γ n1 r1 r0 (Int.ofNat (List.length r0)) 0 := (Jn_step ..).trans (by
  kernel_rfl)
theorem q39_0_eq (Γ : Bool → SemL) (n1 : Nat) (r0 r1 : List (List D)) : q39_0 Γ n1 r0 r1 = l39_0 n1 Γ n1 r1 r0 (Int.ofNat (List.length r0)) 0 := (Jn_step ..).trans (by
  kernel_rfl)
theorem l32_0_eq (n0 : Nat) (Γ : Bool → SemL) (n2 : Nat) (r0 r1 : List (List D)) (x2 x3 : Int) : l32_0 (n0 + 1) Γ n2 r0 r1 x2 x3 = bif decide (x3 < x2) then q32_1 Γ
  n0 n2 r0 r1 x2 x3 else q32_3 Γ n2 := (loop_step ..).trans (by kernel_rfl)
theorem l33_0_eq (n0 : Nat) (Γ : Bool → SemL) (n2 : Nat) (r0 r1 : List (List D)) (x2 x3 : Int) : l33_0 (n0 + 1) Γ n2 r0 r1 x2 x3 = bif decide (x3 < x2) then q33_1 Γ
  n0 n2 r0 r1 x2 x3 else q33_3 Γ n2 := (loop_step ..).trans (by kernel_rfl)
theorem l34_0_eq (n0 : Nat) (Γ : Bool → SemL) (n2 : Nat) (r0 r1 : List (List D)) (x2 x3 : Int) : l34_0 (n0 + 1) Γ n2 r0 r1 x2 x3 = bif decide (x3 < x2) then q34_1 Γ
  n0 n2 r0 r1 x2 x3 else q34_3 Γ n2 := (loop_step ..).trans (by kernel_rfl)
theorem l37_0_eq (n0 : Nat) (Γ : Bool → SemL) (n2 : Nat) (r0 r1 : List (List D)) (x2 x3 : Int) : l37_0 (n0 + 1) Γ n2 r0 r1 x2 x3 = bif decide (x3 < x2) then q37_1 Γ
  n0 n2 r0 r1 x2 x3 else q37_3 Γ n2 := (loop_step ..).trans (by kernel_rfl)
theorem l39_0_eq (n0 : Nat) (Γ : Bool → SemL) (n2 : Nat) (r0 r1 : List (List D)) (x2 x3 : Int) : l39_0 (n0 + 1) Γ n2 r0 r1 x2 x3 = bif decide (x3 < x2) then q39_1 Γ
  n0 n2 r0 r1 x2 x3 else q39_3 Γ n2 := (loop_step ..).trans (by kernel_rfl)
theorem q32_1_eq (Γ : Bool → SemL) (n1 : Nat) (n2 : Nat) (r0 r1 : List (List D)) (x2 x3 : Int) : q32_1 Γ n1 n2 r0 r1 x2 x3 = bif decide (0 ≤ x3) && decide (x3 <
  Int.ofNat (List.length r0)) then bif decide (0 ≤ x3) && decide (x3 < Int.ofNat (List.length r1)) then bif D.isStr (List.getD (List.getD r0 (Int.toNat x3) []) 0 D.junk) then bif D.isStr
  (List.getD (List.getD r1 (Int.toNat x3) []) 0 D.junk) then bif !beqL (Array.toList (ByteArray.data (D.bytes (List.getD (List.getD r0 (Int.toNat x3) []) 0 D.junk)))) (Array.toList
  (ByteArray.data (D.bytes (List.getD (List.getD r1 (Int.toNat x3) []) 0 D.junk)))) then some (Out.mk true (V.one (X.d (D.bool false))) D.junk [] 0) else q32_2 Γ n1 n2 r0 r1 x2 x3 else none
  else none else none else none := (Jn_step ..).trans (by kernel_rfl)
theorem q32_3_eq (Γ : Bool → SemL) (n1 : Nat) : q32_3 Γ n1 = some (Out.mk true (V.one (X.d (D.bool true))) D.junk [] 0) := (Jn_step ..).trans (by kernel_rfl)
theorem q33_1_eq (Γ : Bool → SemL) (n1 : Nat) (n2 : Nat) (r0 r1 : List (List D)) (x2 x3 : Int) : q33_1 Γ n1 n2 r0 r1 x2 x3 = bif decide (0 ≤ x3) && decide (x3 <
  Int.ofNat (List.length r0)) then bif decide (0 ≤ x3) && decide (x3 < Int.ofNat (List.length r1)) then bif D.isInt iK (List.getD (List.getD r0 (Int.toNat x3) []) 0 D.junk) then bif
  D.isInt iK (List.getD (List.getD r1 (Int.toNat x3) []) 0 D.junk) then bif D.num (List.getD (List.getD r0 (Int.toNat x3) []) 0 D.junk) != D.num (List.getD (List.getD r1 (Int.toNat
  x3) []) 0 D.junk) then some (Out.mk true (V.one (X.d (D.bool false))) D.junk [] 0) else q33_2 Γ n1 n2 r0 r1 x2 x3 else none else none else none else none := (Jn_step ..).trans (by
  kernel_rfl)
theorem q33_3_eq (Γ : Bool → SemL) (n1 : Nat) : q33_3 Γ n1 = some (Out.mk true (V.one (X.d (D.bool true))) D.junk [] 0) := (Jn_step ..).trans (by kernel_rfl)
theorem q34_1_eq (Γ : Bool → SemL) (n1 : Nat) (n2 : Nat) (r0 r1 : List (List D)) (x2 x3 : Int) : q34_1 Γ n1 n2 r0 r1 x2 x3 = bif decide (0 ≤ x3) && decide (x3 <
  Int.ofNat (List.length r1)) then bif decide (0 ≤ x3) && decide (x3 < Int.ofNat (List.length r0)) then r_oB (Γ false 15 [V.agg [X.d (List.getD (List.getD r1 (Int.toNat x3) []) 0 D.junk), X.d
  (List.getD (List.getD r1 (Int.toNat x3) []) 1 D.junk), X.d (List.getD (List.getD r1 (Int.toNat x3) []) 2 D.junk), X.d (List.getD (List.getD r1 (Int.toNat x3) []) 3 D.junk), X.d (List.getD
  (List.getD r1 (Int.toNat x3) []) 4 D.junk), X.d (List.getD (List.getD r1 (Int.toNat x3) []) 5 D.junk), X.d (List.getD (List.getD r1 (Int.toNat x3) []) 6 D.junk), X.d (List.getD (List.getD
  r1 (Int.toNat x3) []) 7 D.junk)], V.agg [X.d (List.getD (List.getD r0 (Int.toNat x3) []) 0 D.junk), X.d (List.getD (List.getD r0 (Int.toNat x3) []) 1 D.junk), X.d (List.getD (List.getD r0
  (Int.toNat x3) []) 2 D.junk), X.d (List.getD (List.getD r0 (Int.toNat x3) []) 3 D.junk), X.d (List.getD (List.getD r0 (Int.toNat x3) []) 4 D.junk), X.d (List.getD (List.getD r0 (Int.toNat
  x3) []) 5 D.junk), X.d (List.getD (List.getD r0 (Int.toNat x3) []) 6 D.junk), X.d (List.getD (List.getD r0 (Int.toNat x3) []) 7 D.junk)]] []) (fun c0_ => bif !c0_ then some (Out.mk true
  (V.one (X.d (D.bool false))) D.junk [] 0) else q34_2 Γ n1 n2 r0 r1 x2 x3) fun d1_ => some (Out.mk false V.junk d1_ [] 0) else none else none := (Jn_step ..).trans (by kernel_rfl)
theorem q34_3_eq (Γ : Bool → SemL) (n1 : Nat) : q34_3 Γ n1 = some (Out.mk true (V.one (X.d (D.bool true))) D.junk [] 0) := (Jn_step ..).trans (by kernel_rfl)
theorem q37_1_eq (Γ : Bool → SemL) (n1 : Nat) (n2 : Nat) (r0 r1 : List (List D)) (x2 x3 : Int) : q37_1 Γ n1 n2 r0 r1 x2 x3 = bif decide (0 ≤ x3) && decide (x3 <
  Int.ofNat (List.length r1)) then bif decide (0 ≤ x3) && decide (x3 < Int.ofNat (List.length r0)) then r_oB (Γ false 38 [V.agg [X.d (List.getD (List.getD r1 (Int.toNat x3) []) 0 D.junk), X.d
  (List.getD (List.getD r1 (Int.toNat x3) []) 1 D.junk), X.d (List.getD (List.getD r1 (Int.toNat x3) []) 2 D.junk), X.d (List.getD (List.getD r1 (Int.toNat x3) []) 3 D.junk), X.d (List.getD
  (List.getD r1 (Int.toNat x3) []) 4 D.junk)], V.agg [X.d (List.getD (List.getD r0 (Int.toNat x3) []) 0 D.junk), X.d (List.getD (List.getD r0 (Int.toNat x3) []) 1 D.junk), X.d (List.getD
  (List.getD r0 (Int.toNat x3) []) 2 D.junk), X.d (List.getD (List.getD r0 (Int.toNat x3) []) 3 D.junk), X.d (List.getD (List.getD r0 (Int.toNat x3) []) 4 D.junk)]] []) (fun c0_ => bif !c0_
  then some (Out.mk true (V.one (X.d (D.bool false))) D.junk [] 0) else q37_2 Γ n1 n2 r0 r1 x2 x3) fun d1_ => some (Out.mk false V.junk d1_ [] 0) else none else none := (Jn_step ..).trans (by
  kernel_rfl)
theorem q37_3_eq (Γ : Bool → SemL) (n1 : Nat) : q37_3 Γ n1 = some (Out.mk true (V.one (X.d (D.bool true))) D.junk [] 0) := (Jn_step ..).trans (by kernel_rfl)
theorem q39_1_eq (Γ : Bool → SemL) (n1 : Nat) (n2 : Nat) (r0 r1 : List (List D)) (x2 x3 : Int) : q39_1 Γ n1 n2 r0 r1 x2 x3 = bif decide (0 ≤ x3) && decide (x3 <
  Int.ofNat (List.length r1)) then bif decide (0 ≤ x3) && decide (x3 < Int.ofNat (List.length r0)) then r_oB (Γ false 40 [V.agg [X.d (List.getD (List.getD r1 (Int.toNat x3) []) 0 D.junk), X.d
  (List.getD (List.getD r1 (Int.toNat x3) []) 1 D.junk), X.d (List.getD (List.getD r1 (Int.toNat x3) []) 2 D.junk), X.d (List.getD (List.getD r1 (Int.toNat x3) []) 3 D.junk), X.d (List.getD
  (List.getD r1 (Int.toNat x3) []) 4 D.junk), X.d (List.getD (List.getD r1 (Int.toNat x3) []) 5 D.junk), X.d (List.getD (List.getD r1 (Int.toNat x3) []) 6 D.junk), X.d (List.getD (List.getD
  r1 (Int.toNat x3) []) 7 D.junk), X.d (List.getD (List.getD r1 (Int.toNat x3) []) 8 D.junk), X.d (List.getD (List.getD r1 (Int.toNat x3) []) 9 D.junk), X.d (List.getD (List.getD r1
  (Int.toNat x3) []) 10 D.junk), X.d (List.getD (List.getD r1 (Int.toNat x3) []) 11 D.junk), X.d (List.getD (List.getD r1 (Int.toNat x3) []) 12 D.junk), X.d (List.getD (List.getD r1
  (Int.toNat x3) []) 13 D.junk)], V.agg [X.d (List.getD (List.getD r0 (Int.toNat x3) []) 0 D.junk), X.d (List.getD (List.getD r0 (Int.toNat x3) []) 1 D.junk), X.d (List.getD (List.getD r0
  (Int.toNat x3) []) 2 D.junk), X.d (List.getD (List.getD r0 (Int.toNat x3) []) 3 D.junk), X.d (List.getD (List.getD r0 (Int.toNat x3) []) 4 D.junk), X.d (List.getD (List.getD r0 (Int.toNat
  x3) []) 5 D.junk), X.d (List.getD (List.getD r0 (Int.toNat x3) []) 6 D.junk), X.d (List.getD (List.getD r0 (Int.toNat x3) []) 7 D.junk), X.d (List.getD (List.getD r0 (Int.toNat x3) []) 8
  D.junk), X.d (List.getD (List.getD r0 (Int.toNat x3) []) 9 D.junk), X.d (List.getD (List.getD r0 (Int.toNat x3) []) 10 D.junk), X.d (List.getD (List.getD r0 (Int.toNat x3) []) 11 D.junk),
  X.d (List.getD (List.getD r0 (Int.toNat x3) []) 12 D.junk), X.d (List.getD (List.getD r0 (Int.toNat x3) []) 13 D.junk)]] []) (fun c0_ => bif !c0_ then some (Out.mk true (V.one (X.d (D.bool
  false))) D.junk [] 0) else q39_2 Γ n1 n2 r0 r1 x2 x3) fun d1_ => some (Out.mk false V.junk d1_ [] 0) else none else none := (Jn_step ..).trans (by kernel_rfl)
theorem q39_3_eq (Γ : Bool → SemL) (n1 : Nat) : q39_3 Γ n1 = some (Out.mk true (V.one (X.d (D.bool true))) D.junk [] 0) := (Jn_step ..).trans (by kernel_rfl)
theorem q32_2_eq (Γ : Bool → SemL) (n1 : Nat) (n2 : Nat) (r0 r1 : List (List D)) (x2 x3 : Int) : q32_2 Γ n1 n2 r0 r1 x2 x3 = l32_0 n1 Γ n2 r0 r1 x2 (IntKind.wrap
  iK (x3 + 1)) := (Jn_step ..).trans (by kernel_rfl)
theorem q33_2_eq (Γ : Bool → SemL) (n1 : Nat) (n2 : Nat) (r0 r1 : List (List D)) (x2 x3 : Int) : q33_2 Γ n1 n2 r0 r1 x2 x3 = l33_0 n1 Γ n2 r0 r1 x2 (IntKind.wrap
  iK (x3 + 1)) := (Jn_step ..).trans (by kernel_rfl)
theorem q34_2_eq (Γ : Bool → SemL) (n1 : Nat) (n2 : Nat) (r0 r1 : List (List D)) (x2 x3 : Int) : q34_2 Γ n1 n2 r0 r1 x2 x3 = l34_0 n1 Γ n2 r0 r1 x2 (IntKind.wrap
  iK (x3 + 1)) := (Jn_step ..).trans (by kernel_rfl)
theorem e38_eq (Γ : Bool → SemL) (n1 : Nat) (s0 : ByteArray) (x1 : Int) (r2 : List (List D)) (x3 x4 : Int) (s5 : ByteArray) (x6 : Int) (r7 : List (List D)) (x8 x9 : Int) : e38
  Γ n1 s0 x1 r2 x3 x4 s5 x6 r7 x8 x9 = bif beqL (Array.toList (ByteArray.data s0)) (Array.toList (ByteArray.data s5)) then r_oB (Γ false 41 [V.agg [X.d (D.int iK x1), X.d (D.list 2
  r2)], V.agg [X.d (D.int iK x6), X.d (D.list 2 r7)]] []) (fun c0_ => some (Out.mk true (V.one (X.d (D.bool c0_))) D.junk [] 0)) fun d1_ => some (Out.mk false V.junk d1_ [] 0) else
  some (Out.mk true (V.one (X.d (D.bool false))) D.junk [] 0) := (run_step ..).trans (by kernel_rfl)
theorem q37_2_eq (Γ : Bool → SemL) (n1 : Nat) (n2 : Nat) (r0 r1 : List (List D)) (x2 x3 : Int) : q37_2 Γ n1 n2 r0 r1 x2 x3 = l37_0 n1 Γ n2 r0 r1 x2 (IntKind.wrap
  iK (x3 + 1)) := (Jn_step ..).trans (by kernel_rfl)
theorem e40_eq (Γ : Bool → SemL) (n1 : Nat) (s0 : ByteArray) (r1 : List (List D)) (x2 : Int) (r3 : List (List D)) (x4 x5 : Int) (s6 : ByteArray) (r7 r8 r9 : List (List D)) (x10 x11 x12 x13 : Int) (s14 : ByteArray) (r15 : List (List D)) (x16 : Int) (r17 : List (List D)) (x18 x19 : Int) (s20 : ByteArray)
  (r21 r22 r23 : List (List D)) (x24 x25 x26 x27 : Int) : e40 Γ n1 s0 r1 x2 r3 x4 x5 s6 r7 r8 r9 x10 x11 x12 x13 s14 r15 x16 r17
  x18 x19 s20 r21 r22 r23 x24 x25 x26 x27 = bif beqL (Array.toList (ByteArray.data s0)) (Array.toList (ByteArray.data s14)) then r_oB (Γ false 37 [V.one (X.d (D.list 5 r1)), V.one (X.d
  (D.list 5 r15)), V.one (X.fn 38 [])] []) (fun c0_ => bif c0_ then r_oB (Γ false 41 [V.agg [X.d (D.int iK x2), X.d (D.list 2 r3)], V.agg [X.d (D.int iK x16), X.d (D.list 2
  r17)]] []) (fun c2_ => bif c2_ then r_oB (Γ false 15 [V.agg [X.d (D.int iK x4), X.d (D.int iK x5), X.d (D.str s6), X.d (D.list 1 r7), X.d (D.list 1 r8), X.d (D.list 8 r9),
  X.d (D.int iK x10), X.d (D.int iK x11)], V.agg [X.d (D.int iK x18), X.d (D.int iK x19), X.d (D.str s20), X.d (D.list 1 r21), X.d (D.list 1 r22), X.d
  (D.list 8 r23), X.d (D.int iK x24), X.d (D.int iK x25)]] []) (fun c4_ => some (Out.mk true (V.one (X.d (D.bool c4_))) D.junk [] 0)) fun d5_ => some (Out.mk false V.junk
  d5_ [] 0) else some (Out.mk true (V.one (X.d (D.bool false))) D.junk [] 0)) fun d3_ => some (Out.mk false V.junk d3_ [] 0) else some (Out.mk true (V.one (X.d (D.bool false))) D.junk [] 0))
  fun d1_ => some (Out.mk false V.junk d1_ [] 0) else some (Out.mk true (V.one (X.d (D.bool false))) D.junk [] 0) := (run_step ..).trans (by kernel_rfl)
theorem q39_2_eq (Γ : Bool → SemL) (n1 : Nat) (n2 : Nat) (r0 r1 : List (List D)) (x2 x3 : Int) : q39_2 Γ n1 n2 r0 r1 x2 x3 = l39_0 n1 Γ n2 r0 r1 x2 (IntKind.wrap
  iK (x3 + 1)) := (Jn_step ..).trans (by kernel_rfl)
theorem e41_eq (Γ : Bool → SemL) (n1 : Nat) (x0 : Int) (r1 : List (List D)) (x2 : Int) (r3 : List (List D)) : e41 Γ n1 x0 r1 x2 r3 = bif x0 == x2 then r_oB (Γ false 71 [V.one (X.d (D.list 2
  r1)), V.one (X.d (D.list 2 r3)), V.one (X.fn 41 [])] []) (fun c0_ => some (Out.mk true (V.one (X.d (D.bool c0_))) D.junk [] 0)) fun d1_ => some (Out.mk false V.junk d1_ [] 0) else some
  (Out.mk true (V.one (X.d (D.bool false))) D.junk [] 0) := (run_step ..).trans (by kernel_rfl)
theorem e71f41_eq (Γ : Bool → SemL) (n1 : Nat) (r0 r1 : List (List D)) : e71f41 Γ n1 r0 r1 = bif Int.ofNat (List.length r0) != Int.ofNat (List.length r1) then some (Out.mk
  true (V.one (X.d (D.bool false))) D.junk [] 0) else q71_0 Γ n1 r0 r1 := (run_step ..).trans (by kernel_rfl)
theorem q71_0_eq (Γ : Bool → SemL) (n1 : Nat) (r0 r1 : List (List D)) : q71_0 Γ n1 r0 r1 = l71_0 n1 Γ n1 r1 r0 (Int.ofNat (List.length r0)) 0 := (Jn_step ..).trans (by
  kernel_rfl)
theorem l71_0_eq (n0 : Nat) (Γ : Bool → SemL) (n2 : Nat) (r0 r1 : List (List D)) (x2 x3 : Int) : l71_0 (n0 + 1) Γ n2 r0 r1 x2 x3 = bif decide (x3 < x2) then q71_1 Γ
  n0 n2 r0 r1 x2 x3 else q71_3 Γ n2 := (loop_step ..).trans (by kernel_rfl)
theorem q71_1_eq (Γ : Bool → SemL) (n1 : Nat) (n2 : Nat) (r0 r1 : List (List D)) (x2 x3 : Int) : q71_1 Γ n1 n2 r0 r1 x2 x3 = bif decide (0 ≤ x3) && decide (x3 <
  Int.ofNat (List.length r1)) then bif decide (0 ≤ x3) && decide (x3 < Int.ofNat (List.length r0)) then r_oB (Γ false 41 [V.agg [X.d (List.getD (List.getD r1 (Int.toNat x3) []) 0 D.junk), X.d
  (List.getD (List.getD r1 (Int.toNat x3) []) 1 D.junk)], V.agg [X.d (List.getD (List.getD r0 (Int.toNat x3) []) 0 D.junk), X.d (List.getD (List.getD r0 (Int.toNat x3) []) 1 D.junk)]] [])
  (fun c0_ => bif !c0_ then some (Out.mk true (V.one (X.d (D.bool false))) D.junk [] 0) else q71_2 Γ n1 n2 r0 r1 x2 x3) fun d1_ => some (Out.mk false V.junk d1_ [] 0) else none else none :=
  (Jn_step ..).trans (by kernel_rfl)
theorem q71_3_eq (Γ : Bool → SemL) (n1 : Nat) : q71_3 Γ n1 = some (Out.mk true (V.one (X.d (D.bool true))) D.junk [] 0) := (Jn_step ..).trans (by kernel_rfl)
theorem q71_2_eq (Γ : Bool → SemL) (n1 : Nat) (n2 : Nat) (r0 r1 : List (List D)) (x2 x3 : Int) : q71_2 Γ n1 n2 r0 r1 x2 x3 = l71_0 n1 Γ n2 r0 r1 x2 (IntKind.wrap
  iK (x3 + 1)) := (Jn_step ..).trans (by kernel_rfl)
theorem call15 (x0 x1 : Int) (s2 : ByteArray) (r3 r4 r5 : List (List D)) (x6 x7 x8 x9 : Int) (s10 : ByteArray) (r11 r12 r13 : List (List D)) (x14 x15 : Int) {o : Out} (h : Ev (fun _ k n => e15 (Ak k) n x0 x1 s2 r3 r4 r5 x6 x7 x8 x9 s10 r11 r12 r13 x14 x15) o) : Cal 15
  [V.agg [X.d (D.int iK x0), X.d (D.int iK x1), X.d (D.str s2), X.d (D.list 1 r3), X.d (D.list 1 r4), X.d (D.list 8 r5), X.d (D.int iK x6), X.d (D.int iK
  x7)], V.agg [X.d (D.int iK x8), X.d (D.int iK x9), X.d (D.str s10), X.d (D.list 1 r11), X.d (D.list 1 r12), X.d (D.list 8 r13), X.d (D.int iK x14), X.d (D.int
  iK x15)]] [] o := Ev.call (E := fun Γ n1 => e15 Γ n1 x0 x1 s2 r3 r4 r5 x6 x7 x8 x9 s10 r11 r12 r13 x14 x15) (fun k => call_step (by kernel_rfl) rfl) h
theorem call17 (r0 r1 : List (List D)) (x2 x3 : Int) (s4 : ByteArray) (r5 r6 r7 : List (List D)) (x8 x9 : Int) (r10 r11 : List (List D)) (x12 x13 : Int) (s14 : ByteArray) (r15 r16 r17 : List (List D)) (x18 x19 : Int) {o : Out} (h : Ev
  (fun _ k n => e17 (Ak k) n r0 r1 x2 x3 s4 r5 r6 r7 x8 x9 r10 r11 x12 x13 s14 r15 r16 r17 x18 x19) o) : Cal 17 [V.agg [X.d (D.list 5 r0), X.d (D.list 14 r1), X.d (D.int iK x2), X.d
  (D.int iK x3), X.d (D.str s4), X.d (D.list 1 r5), X.d (D.list 1 r6), X.d (D.list 8 r7), X.d (D.int iK x8), X.d (D.int iK x9)], V.agg [X.d (D.list 5 r10), X.d
  (D.list 14 r11), X.d (D.int iK x12), X.d (D.int iK x13), X.d (D.str s14), X.d (D.list 1 r15), X.d (D.list 1 r16), X.d (D.list 8 r17), X.d (D.int iK x18), X.d
  (D.int iK x19)]] [] o := Ev.call (E := fun Γ n1 => e17 Γ n1 r0 r1 x2 x3 s4 r5 r6 r7 x8 x9 r10 r11 x12 x13 s14 r15 r16 r17 x18 x19) (fun k => call_step (by kernel_rfl) rfl) h
theorem call32 (r0 r1 : List (List D)) {o : Out} (h : Ev (fun _ k n => e32 (Ak k) n r0 r1) o) : Cal 32 [V.one (X.d (D.list 1 r0)), V.one (X.d (D.list 1 r1))] [] o := Ev.call
  (E := fun Γ n1 => e32 Γ n1 r0 r1) (fun k => call_step (by kernel_rfl) rfl) h
theorem call33 (r0 r1 : List (List D)) {o : Out} (h : Ev (fun _ k n => e33 (Ak k) n r0 r1) o) : Cal 33 [V.one (X.d (D.list 1 r0)), V.one (X.d (D.list 1 r1))] [] o := Ev.call
  (E := fun Γ n1 => e33 Γ n1 r0 r1) (fun k => call_step (by kernel_rfl) rfl) h
theorem call34f15 (r0 r1 : List (List D)) {o : Out} (h : Ev (fun _ k n => e34f15 (Ak k) n r0 r1) o) : Cal 34 [V.one (X.d (D.list 8 r0)), V.one (X.d (D.list 8 r1)), V.one
  (X.fn 15 [])] [] o := Ev.call (E := fun Γ n1 => e34f15 Γ n1 r0 r1) (fun k => call_step (by kernel_rfl) rfl) h
theorem call37f38 (r0 r1 : List (List D)) {o : Out} (h : Ev (fun _ k n => e37f38 (Ak k) n r0 r1) o) : Cal 37 [V.one (X.d (D.list 5 r0)), V.one (X.d (D.list 5 r1)), V.one
  (X.fn 38 [])] [] o := Ev.call (E := fun Γ n1 => e37f38 Γ n1 r0 r1) (fun k => call_step (by kernel_rfl) rfl) h
theorem call39f40 (r0 r1 : List (List D)) {o : Out} (h : Ev (fun _ k n => e39f40 (Ak k) n r0 r1) o) : Cal 39 [V.one (X.d (D.list 14 r0)), V.one (X.d (D.list 14 r1)), V.one
  (X.fn 40 [])] [] o := Ev.call (E := fun Γ n1 => e39f40 Γ n1 r0 r1) (fun k => call_step (by kernel_rfl) rfl) h
theorem call38 (s0 : ByteArray) (x1 : Int) (r2 : List (List D)) (x3 x4 : Int) (s5 : ByteArray) (x6 : Int) (r7 : List (List D)) (x8 x9 : Int) {o : Out} (h : Ev (fun _ k n =>
  e38 (Ak k) n s0 x1 r2 x3 x4 s5 x6 r7 x8 x9) o) : Cal 38 [V.agg [X.d (D.str s0), X.d (D.int iK x1), X.d (D.list 2 r2), X.d (D.int iK x3), X.d (D.int iK x4)], V.agg
  [X.d (D.str s5), X.d (D.int iK x6), X.d (D.list 2 r7), X.d (D.int iK x8), X.d (D.int iK x9)]] [] o := Ev.call (E := fun Γ n1 => e38 Γ n1 s0 x1 r2 x3 x4 s5 x6 r7
  x8 x9) (fun k => call_step (by kernel_rfl) rfl) h
theorem call40 (s0 : ByteArray) (r1 : List (List D)) (x2 : Int) (r3 : List (List D)) (x4 x5 : Int) (s6 : ByteArray) (r7 r8 r9 : List (List D)) (x10 x11 x12 x13 : Int) (s14 : ByteArray) (r15 : List (List D)) (x16 : Int) (r17 : List (List D)) (x18 x19 : Int) (s20 : ByteArray) (r21 r22 r23 : List (List D)) (x24 x25 x26 x27 : Int) {o : Out} (h : Ev (fun _ k n => e40 (Ak k) n s0 r1 x2 r3 x4 x5 s6 r7 r8 r9 x10 x11 x12 x13 s14 r15 x16
  r17 x18 x19 s20 r21 r22 r23 x24 x25 x26 x27) o) : Cal 40 [V.agg [X.d (D.str s0), X.d (D.list 5 r1), X.d (D.int iK x2), X.d (D.list 2 r3), X.d (D.int iK x4), X.d (D.int
  iK x5), X.d (D.str s6), X.d (D.list 1 r7), X.d (D.list 1 r8), X.d (D.list 8 r9), X.d (D.int iK x10), X.d (D.int iK x11), X.d (D.int iK x12), X.d (D.int
  iK x13)], V.agg [X.d (D.str s14), X.d (D.list 5 r15), X.d (D.int iK x16), X.d (D.list 2 r17), X.d (D.int iK x18), X.d (D.int iK x19), X.d (D.str s20),
  X.d (D.list 1 r21), X.d (D.list 1 r22), X.d (D.list 8 r23), X.d (D.int iK x24), X.d (D.int iK x25), X.d (D.int iK x26), X.d (D.int iK x27)]] [] o :=
  Ev.call (E := fun Γ n1 => e40 Γ n1 s0 r1 x2 r3 x4 x5 s6 r7 r8 r9 x10 x11 x12 x13 s14 r15 x16 r17 x18 x19 s20 r21 r22 r23 x24 x25 x26 x27) (fun k => call_step (by kernel_rfl) rfl) h
theorem call41 (x0 : Int) (r1 : List (List D)) (x2 : Int) (r3 : List (List D)) {o : Out} (h : Ev (fun _ k n => e41 (Ak k) n x0 r1 x2 r3) o) : Cal 41 [V.agg [X.d (D.int iK x0), X.d
  (D.list 2 r1)], V.agg [X.d (D.int iK x2), X.d (D.list 2 r3)]] [] o := Ev.call (E := fun Γ n1 => e41 Γ n1 x0 r1 x2 r3) (fun k => call_step (by kernel_rfl) rfl) h
theorem call71f41 (r0 r1 : List (List D)) {o : Out} (h : Ev (fun _ k n => e71f41 (Ak k) n r0 r1) o) : Cal 71 [V.one (X.d (D.list 2 r0)), V.one (X.d (D.list 2 r1)), V.one
  (X.fn 41 [])] [] o := Ev.call (E := fun Γ n1 => e71f41 Γ n1 r0 r1) (fun k => call_step (by kernel_rfl) rfl) h
end Go.Proofs.Ytbmcafehpgimfaa.Ps
