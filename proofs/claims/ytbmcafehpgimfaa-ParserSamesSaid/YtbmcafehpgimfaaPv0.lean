/- What comes back from a call, taken apart. Printed by pack4.py. -/
import Derived.Test.YtbmcafehpgimfaaPw3
import Derived.Test.YtbmcafehpgimfaaPsV
namespace Go.Proofs.Ytbmcafehpgimfaa.Ps
set_option maxHeartbeats 0
set_option maxRecDepth 100000
set_option linter.unusedVariables false
open Go Go.RowKit
theorem call_step {f : FuncId} {fn : SFunc} {args : List V} {rows : List (List Lf × List X)} {k : Nat} (h : progV f = some fn) (hn : Nat.beq args.length fn.nparams = true) :
    Ak (k + 1) false f args rows = runF (Ak k) shp rc false (shp f) fn k args rows := by
  have e : Ak (k + 1) false f args rows = (match progV f with
    | some fn => cond (Nat.beq args.length fn.nparams) (runF (Ak k) shp rc false (shp f) fn k args rows) none
    | none => cond false none (libV (Ak k false) f args rows)) := rfl
  rw [e, h]
  show cond _ _ _ = _
  rw [hn]
  rfl
def Ev (F : Nat → Nat → Nat → Option Out) (o : Out) : Prop := ∃ K, ∀ m k n, K ≤ m → K ≤ k → K ≤ n → F m k n = some o
abbrev Cal (f : FuncId) (args : List V) (rows : List (List Lf × List X)) (o : Out) : Prop := Ev (fun _ k _ => Ak k false f args rows) o
theorem Ev.two {F G H : Nat → Nat → Nat → Option Out} {o o' : Out} (h : Ev F o) (h2 : Ev G o') (hh : ∀ m k n, F m k n = some o → H m k n = G m k n) : Ev H o' := by
  obtain ⟨K, hK⟩ := h
  obtain ⟨L, hL⟩ := h2
  exact ⟨K + L, fun m k n h1 h2 h3 => (hh m k n (hK m k n (by omega) (by omega) (by omega))).trans (hL m k n (by omega) (by omega) (by omega))⟩
theorem Ev.step {F : Nat → Nat → Nat → Option Out} {o : Out} (h : Ev (fun m k n => F (m + 1) k n) o) : Ev F o := by
  obtain ⟨K, hK⟩ := h
  refine ⟨K + 1, fun m k n h1 h2 h3 => ?_⟩
  obtain ⟨m, rfl⟩ : ∃ m', m = m' + 1 := ⟨m - 1, by omega⟩
  exact hK m k n (by omega) (by omega) (by omega)
theorem Ev.diag {F : Nat → Nat → Nat → Option Out} {o : Out} (h : Ev F o) : Ev (fun m k n => F n k n) o := by
  obtain ⟨K, hK⟩ := h
  exact ⟨K, fun m k n h1 h2 h3 => hK n k n h3 h2 h3⟩
theorem Ev.call {f : FuncId} {args : List V} {rows : List (List Lf × List X)} {E : (Bool → SemL) → Nat → Option Out} {o : Out} (he : ∀ k, Ak (k + 1) false f args rows = E (Ak k) k) (h : Ev (fun _ k n => E (Ak k) n) o) : Cal f args rows o := by
  obtain ⟨K, hK⟩ := h
  refine ⟨K + 1, fun m k n h1 h2 h3 => ?_⟩
  obtain ⟨k, rfl⟩ : ∃ k', k = k' + 1 := ⟨k - 1, by omega⟩
  exact (he k).trans (hK k k k (by omega) (by omega) (by omega))
theorem Ev.dcall {f : FuncId} {args : List V} {rows : List (List Lf × List X)} {E : (Bool → SemL) → Nat → Option Out} {o : Out} (he : ∀ k, Ak (k + 1) true f args rows = E (Ak k) k) (h : Ev (fun _ k n => E (Ak k) n) o) : Ev (fun _ k _ => Ak k true f args rows) o := by
  obtain ⟨K, hK⟩ := h
  refine ⟨K + 1, fun m k n h1 h2 h3 => ?_⟩
  obtain ⟨k, rfl⟩ : ∃ k', k = k' + 1 := ⟨k - 1, by omega⟩
  exact (he k).trans (hK k k k (by omega) (by omega) (by omega))
theorem Ev.ret (o : Out) : Ev (fun _ _ _ => some o) o := ⟨0, fun _ _ _ _ _ _ => rfl⟩
theorem Ev.of {F : Nat → Nat → Nat → Option Out} {o : Out} (h : ∀ m k n, F m k n = some o) : Ev F o := ⟨0, fun m k n _ _ _ => h m k n⟩
theorem Ev.eq {F G : Nat → Nat → Nat → Option Out} {o : Out} (h : Ev G o) (e : ∀ m k n, F m k n = G m k n) : Ev F o := by
  obtain ⟨K, hK⟩ := h
  exact ⟨K, fun m k n h1 h2 h3 => (e m k n).trans (hK m k n h1 h2 h3)⟩
theorem Ev.yes {c : Bool} {F G : Nat → Nat → Nat → Option Out} {o : Out} (hc : c = true) (h : Ev F o) : Ev (fun m k n => bif c then F m k n else G m k n) o := by subst hc; exact h
theorem Ev.no {c : Bool} {F G : Nat → Nat → Nat → Option Out} {o : Out} (hc : c = false) (h : Ev G o) : Ev (fun m k n => bif c then F m k n else G m k n) o := by subst hc; exact h
def r_a10L5L14IISL1L1L8II_L5I (x : Option Out) (K : List (List D) → List (List D) → Int → Int → ByteArray → List (List D) → List (List D) → List (List D) → Int → Int → List (List D) → Int →
  Option Out) (P : D → List (List D) → Int → Option Out) : Option Out := retK [[(Lf.lst 5), (Lf.int IntKind.i64)]] (Sh.agg [(Lf.lst 5), (Lf.lst 14), (Lf.int IntKind.i64), (Lf.int
  IntKind.i64), Lf.str, (Lf.lst 1), (Lf.lst 1), (Lf.lst 8), (Lf.int IntKind.i64), (Lf.int IntKind.i64)]) x (fun v rows => K (D.rows (X.dd (X.cell v 0))) (D.rows (X.dd (X.cell v 1))) (D.num
  (X.dd (X.cell v 2))) (D.num (X.dd (X.cell v 3))) (D.bytes (X.dd (X.cell v 4))) (D.rows (X.dd (X.cell v 5))) (D.rows (X.dd (X.cell v 6))) (D.rows (X.dd (X.cell v 7))) (D.num (X.dd (X.cell v
  8))) (D.num (X.dd (X.cell v 9))) (D.rows (X.dd (List.getD (List.getD rows 0 []) 0 (X.d D.junk)))) (D.num (X.dd (List.getD (List.getD rows 0 []) 1 (X.d D.junk))))) (fun d rows => P d (D.rows
  (X.dd (List.getD (List.getD rows 0 []) 0 (X.d D.junk)))) (D.num (X.dd (List.getD (List.getD rows 0 []) 1 (X.d D.junk)))))
def r_a14SL5IL2IISL1L1L8IIII_L5I (x : Option Out) (K : ByteArray → List (List D) → Int → List (List D) → Int → Int → ByteArray → List (List D) → List (List D) → List (List D) → Int → Int →
  Int → Int → List (List D) → Int → Option Out) (P : D → List (List D) → Int → Option Out) : Option Out := retK [[(Lf.lst 5), (Lf.int IntKind.i64)]] (Sh.agg [Lf.str, (Lf.lst 5), (Lf.int
  IntKind.i64), (Lf.lst 2), (Lf.int IntKind.i64), (Lf.int IntKind.i64), Lf.str, (Lf.lst 1), (Lf.lst 1), (Lf.lst 8), (Lf.int IntKind.i64), (Lf.int IntKind.i64), (Lf.int IntKind.i64), (Lf.int
  IntKind.i64)]) x (fun v rows => K (D.bytes (X.dd (X.cell v 0))) (D.rows (X.dd (X.cell v 1))) (D.num (X.dd (X.cell v 2))) (D.rows (X.dd (X.cell v 3))) (D.num (X.dd (X.cell v 4))) (D.num
  (X.dd (X.cell v 5))) (D.bytes (X.dd (X.cell v 6))) (D.rows (X.dd (X.cell v 7))) (D.rows (X.dd (X.cell v 8))) (D.rows (X.dd (X.cell v 9))) (D.num (X.dd (X.cell v 10))) (D.num (X.dd (X.cell v
  11))) (D.num (X.dd (X.cell v 12))) (D.num (X.dd (X.cell v 13))) (D.rows (X.dd (List.getD (List.getD rows 0 []) 0 (X.d D.junk)))) (D.num (X.dd (List.getD (List.getD rows 0 []) 1 (X.d
  D.junk))))) (fun d rows => P d (D.rows (X.dd (List.getD (List.getD rows 0 []) 0 (X.d D.junk)))) (D.num (X.dd (List.getD (List.getD rows 0 []) 1 (X.d D.junk)))))
theorem g_a14SL5IL2IISL1L1L8IIII_L5I (y0 : ByteArray) (y1 : List (List D)) (y2 : Int) (y3 : List (List D)) (y4 : Int) (y5 : Int) (y6 : ByteArray) (y7 : List (List D)) (y8 : List (List D)) (y9
  : List (List D)) (y10 : Int) (y11 : Int) (y12 : Int) (y13 : Int) (y14 : List (List D)) (y15 : Int) (K : ByteArray → List (List D) → Int → List (List D) → Int → Int → ByteArray → List (List
  D) → List (List D) → List (List D) → Int → Int → Int → Int → List (List D) → Int → Option Out) (P : D → List (List D) → Int → Option Out) : r_a14SL5IL2IISL1L1L8IIII_L5I (some (Out.mk true
  (V.agg [X.d (D.str y0), X.d (D.list 5 y1), X.d (D.int IntKind.i64 y2), X.d (D.list 2 y3), X.d (D.int IntKind.i64 y4), X.d (D.int IntKind.i64 y5), X.d (D.str y6), X.d (D.list 1 y7), X.d
  (D.list 1 y8), X.d (D.list 8 y9), X.d (D.int IntKind.i64 y10), X.d (D.int IntKind.i64 y11), X.d (D.int IntKind.i64 y12), X.d (D.int IntKind.i64 y13)]) D.junk [[X.d (D.list 5 y14), X.d
  (D.int IntKind.i64 y15)]] 0)) K P = K y0 y1 y2 y3 y4 y5 y6 y7 y8 y9 y10 y11 y12 y13 y14 y15 := rfl
theorem v_a14SL5IL2IISL1L1L8IIII_L5I {x : Nat → Option Out} {K : Nat → Nat → Nat → ByteArray → List (List D) → Int → List (List D) → Int → Int → ByteArray → List (List D) → List (List D) →
  List (List D) → Int → Int → Int → Int → List (List D) → Int → Option Out} {P : Nat → Nat → Nat → D → List (List D) → Int → Option Out} {o : Out} {y0 : ByteArray} {y1 : List (List D)} {y2 :
  Int} {y3 : List (List D)} {y4 : Int} {y5 : Int} {y6 : ByteArray} {y7 : List (List D)} {y8 : List (List D)} {y9 : List (List D)} {y10 : Int} {y11 : Int} {y12 : Int} {y13 : Int} {y14 : List
  (List D)} {y15 : Int} (h : Ev (fun _ k _ => x k) (Out.mk true (V.agg [X.d (D.str y0), X.d (D.list 5 y1), X.d (D.int IntKind.i64 y2), X.d (D.list 2 y3), X.d (D.int IntKind.i64 y4), X.d
  (D.int IntKind.i64 y5), X.d (D.str y6), X.d (D.list 1 y7), X.d (D.list 1 y8), X.d (D.list 8 y9), X.d (D.int IntKind.i64 y10), X.d (D.int IntKind.i64 y11), X.d (D.int IntKind.i64 y12), X.d
  (D.int IntKind.i64 y13)]) D.junk [[X.d (D.list 5 y14), X.d (D.int IntKind.i64 y15)]] 0)) (h2 : Ev (fun m k n => K m k n y0 y1 y2 y3 y4 y5 y6 y7 y8 y9 y10 y11 y12 y13 y14 y15) o) : Ev (fun m
  k n => r_a14SL5IL2IISL1L1L8IIII_L5I (x k) (K m k n) (P m k n)) o := Ev.two h h2 fun m k n e => (congrArg (fun z => r_a14SL5IL2IISL1L1L8IIII_L5I z (K m k n) (P m k n)) e).trans
  (g_a14SL5IL2IISL1L1L8IIII_L5I y0 y1 y2 y3 y4 y5 y6 y7 y8 y9 y10 y11 y12 y13 y14 y15 _ _)
theorem p_a14SL5IL2IISL1L1L8IIII_L5I (d : D) (y14 : List (List D)) (y15 : Int) (K : ByteArray → List (List D) → Int → List (List D) → Int → Int → ByteArray → List (List D) → List (List D) →
  List (List D) → Int → Int → Int → Int → List (List D) → Int → Option Out) (P : D → List (List D) → Int → Option Out) : r_a14SL5IL2IISL1L1L8IIII_L5I (some (Out.mk false V.junk d [[X.d
  (D.list 5 y14), X.d (D.int IntKind.i64 y15)]] 0)) K P = P d y14 y15 := rfl
theorem u_a14SL5IL2IISL1L1L8IIII_L5I {x : Nat → Option Out} {K : Nat → Nat → Nat → ByteArray → List (List D) → Int → List (List D) → Int → Int → ByteArray → List (List D) → List (List D) →
  List (List D) → Int → Int → Int → Int → List (List D) → Int → Option Out} {P : Nat → Nat → Nat → D → List (List D) → Int → Option Out} {o : Out} {d : D} {y14 : List (List D)} {y15 : Int} (h
  : Ev (fun _ k _ => x k) (Out.mk false V.junk d [[X.d (D.list 5 y14), X.d (D.int IntKind.i64 y15)]] 0)) (h2 : Ev (fun m k n => P m k n d y14 y15) o) : Ev (fun m k n =>
  r_a14SL5IL2IISL1L1L8IIII_L5I (x k) (K m k n) (P m k n)) o := Ev.two h h2 fun m k n e => (congrArg (fun z => r_a14SL5IL2IISL1L1L8IIII_L5I z (K m k n) (P m k n)) e).trans
  (p_a14SL5IL2IISL1L1L8IIII_L5I d y14 y15 _ _)
def r_a2IL2_L5I (x : Option Out) (K : Int → List (List D) → List (List D) → Int → Option Out) (P : D → List (List D) → Int → Option Out) : Option Out := retK [[(Lf.lst 5), (Lf.int
  IntKind.i64)]] (Sh.agg [(Lf.int IntKind.i64), (Lf.lst 2)]) x (fun v rows => K (D.num (X.dd (X.cell v 0))) (D.rows (X.dd (X.cell v 1))) (D.rows (X.dd (List.getD (List.getD rows 0 []) 0 (X.d
  D.junk)))) (D.num (X.dd (List.getD (List.getD rows 0 []) 1 (X.d D.junk))))) (fun d rows => P d (D.rows (X.dd (List.getD (List.getD rows 0 []) 0 (X.d D.junk)))) (D.num (X.dd (List.getD
  (List.getD rows 0 []) 1 (X.d D.junk)))))
theorem g_a2IL2_L5I (y0 : Int) (y1 : List (List D)) (y2 : List (List D)) (y3 : Int) (K : Int → List (List D) → List (List D) → Int → Option Out) (P : D → List (List D) → Int → Option Out) :
  r_a2IL2_L5I (some (Out.mk true (V.agg [X.d (D.int IntKind.i64 y0), X.d (D.list 2 y1)]) D.junk [[X.d (D.list 5 y2), X.d (D.int IntKind.i64 y3)]] 0)) K P = K y0 y1 y2 y3 := rfl
theorem v_a2IL2_L5I {x : Nat → Option Out} {K : Nat → Nat → Nat → Int → List (List D) → List (List D) → Int → Option Out} {P : Nat → Nat → Nat → D → List (List D) → Int → Option Out} {o :
  Out} {y0 : Int} {y1 : List (List D)} {y2 : List (List D)} {y3 : Int} (h : Ev (fun _ k _ => x k) (Out.mk true (V.agg [X.d (D.int IntKind.i64 y0), X.d (D.list 2 y1)]) D.junk [[X.d (D.list 5
  y2), X.d (D.int IntKind.i64 y3)]] 0)) (h2 : Ev (fun m k n => K m k n y0 y1 y2 y3) o) : Ev (fun m k n => r_a2IL2_L5I (x k) (K m k n) (P m k n)) o := Ev.two h h2 fun m k n e => (congrArg (fun
  z => r_a2IL2_L5I z (K m k n) (P m k n)) e).trans (g_a2IL2_L5I y0 y1 y2 y3 _ _)
theorem p_a2IL2_L5I (d : D) (y2 : List (List D)) (y3 : Int) (K : Int → List (List D) → List (List D) → Int → Option Out) (P : D → List (List D) → Int → Option Out) : r_a2IL2_L5I (some (Out.mk
  false V.junk d [[X.d (D.list 5 y2), X.d (D.int IntKind.i64 y3)]] 0)) K P = P d y2 y3 := rfl
theorem u_a2IL2_L5I {x : Nat → Option Out} {K : Nat → Nat → Nat → Int → List (List D) → List (List D) → Int → Option Out} {P : Nat → Nat → Nat → D → List (List D) → Int → Option Out} {o :
  Out} {d : D} {y2 : List (List D)} {y3 : Int} (h : Ev (fun _ k _ => x k) (Out.mk false V.junk d [[X.d (D.list 5 y2), X.d (D.int IntKind.i64 y3)]] 0)) (h2 : Ev (fun m k n => P m k n d y2 y3)
  o) : Ev (fun m k n => r_a2IL2_L5I (x k) (K m k n) (P m k n)) o := Ev.two h h2 fun m k n e => (congrArg (fun z => r_a2IL2_L5I z (K m k n) (P m k n)) e).trans (p_a2IL2_L5I d y2 y3 _ _)
def r_a4ISII (x : Option Out) (K : Int → ByteArray → Int → Int → Option Out) (P : D → Option Out) : Option Out := retK [] (Sh.agg [(Lf.int IntKind.i64), Lf.str, (Lf.int IntKind.i64), (Lf.int
  IntKind.i64)]) x (fun v rows => K (D.num (X.dd (X.cell v 0))) (D.bytes (X.dd (X.cell v 1))) (D.num (X.dd (X.cell v 2))) (D.num (X.dd (X.cell v 3)))) (fun d rows => P d )
def r_a4ISII_IISL1L1L8II (x : Option Out) (K : Int → ByteArray → Int → Int → Int → Int → ByteArray → List (List D) → List (List D) → List (List D) → Int → Int → Option Out) (P : D → Int → Int
  → ByteArray → List (List D) → List (List D) → List (List D) → Int → Int → Option Out) : Option Out := retK [[(Lf.int IntKind.i64), (Lf.int IntKind.i64), Lf.str, (Lf.lst 1), (Lf.lst 1),
  (Lf.lst 8), (Lf.int IntKind.i64), (Lf.int IntKind.i64)]] (Sh.agg [(Lf.int IntKind.i64), Lf.str, (Lf.int IntKind.i64), (Lf.int IntKind.i64)]) x (fun v rows => K (D.num (X.dd (X.cell v 0)))
  (D.bytes (X.dd (X.cell v 1))) (D.num (X.dd (X.cell v 2))) (D.num (X.dd (X.cell v 3))) (D.num (X.dd (List.getD (List.getD rows 0 []) 0 (X.d D.junk)))) (D.num (X.dd (List.getD (List.getD rows
  0 []) 1 (X.d D.junk)))) (D.bytes (X.dd (List.getD (List.getD rows 0 []) 2 (X.d D.junk)))) (D.rows (X.dd (List.getD (List.getD rows 0 []) 3 (X.d D.junk)))) (D.rows (X.dd (List.getD
  (List.getD rows 0 []) 4 (X.d D.junk)))) (D.rows (X.dd (List.getD (List.getD rows 0 []) 5 (X.d D.junk)))) (D.num (X.dd (List.getD (List.getD rows 0 []) 6 (X.d D.junk)))) (D.num (X.dd
  (List.getD (List.getD rows 0 []) 7 (X.d D.junk))))) (fun d rows => P d (D.num (X.dd (List.getD (List.getD rows 0 []) 0 (X.d D.junk)))) (D.num (X.dd (List.getD (List.getD rows 0 []) 1 (X.d
  D.junk)))) (D.bytes (X.dd (List.getD (List.getD rows 0 []) 2 (X.d D.junk)))) (D.rows (X.dd (List.getD (List.getD rows 0 []) 3 (X.d D.junk)))) (D.rows (X.dd (List.getD (List.getD rows 0 [])
  4 (X.d D.junk)))) (D.rows (X.dd (List.getD (List.getD rows 0 []) 5 (X.d D.junk)))) (D.num (X.dd (List.getD (List.getD rows 0 []) 6 (X.d D.junk)))) (D.num (X.dd (List.getD (List.getD rows 0
  []) 7 (X.d D.junk)))))
def r_a4ISII_L5L14IISL1L1L8II (x : Option Out) (K : Int → ByteArray → Int → Int → List (List D) → List (List D) → Int → Int → ByteArray → List (List D) → List (List D) → List (List D) → Int →
  Int → Option Out) (P : D → List (List D) → List (List D) → Int → Int → ByteArray → List (List D) → List (List D) → List (List D) → Int → Int → Option Out) : Option Out := retK [[(Lf.lst 5),
  (Lf.lst 14), (Lf.int IntKind.i64), (Lf.int IntKind.i64), Lf.str, (Lf.lst 1), (Lf.lst 1), (Lf.lst 8), (Lf.int IntKind.i64), (Lf.int IntKind.i64)]] (Sh.agg [(Lf.int IntKind.i64), Lf.str,
  (Lf.int IntKind.i64), (Lf.int IntKind.i64)]) x (fun v rows => K (D.num (X.dd (X.cell v 0))) (D.bytes (X.dd (X.cell v 1))) (D.num (X.dd (X.cell v 2))) (D.num (X.dd (X.cell v 3))) (D.rows
  (X.dd (List.getD (List.getD rows 0 []) 0 (X.d D.junk)))) (D.rows (X.dd (List.getD (List.getD rows 0 []) 1 (X.d D.junk)))) (D.num (X.dd (List.getD (List.getD rows 0 []) 2 (X.d D.junk))))
  (D.num (X.dd (List.getD (List.getD rows 0 []) 3 (X.d D.junk)))) (D.bytes (X.dd (List.getD (List.getD rows 0 []) 4 (X.d D.junk)))) (D.rows (X.dd (List.getD (List.getD rows 0 []) 5 (X.d
  D.junk)))) (D.rows (X.dd (List.getD (List.getD rows 0 []) 6 (X.d D.junk)))) (D.rows (X.dd (List.getD (List.getD rows 0 []) 7 (X.d D.junk)))) (D.num (X.dd (List.getD (List.getD rows 0 []) 8
  (X.d D.junk)))) (D.num (X.dd (List.getD (List.getD rows 0 []) 9 (X.d D.junk))))) (fun d rows => P d (D.rows (X.dd (List.getD (List.getD rows 0 []) 0 (X.d D.junk)))) (D.rows (X.dd (List.getD
  (List.getD rows 0 []) 1 (X.d D.junk)))) (D.num (X.dd (List.getD (List.getD rows 0 []) 2 (X.d D.junk)))) (D.num (X.dd (List.getD (List.getD rows 0 []) 3 (X.d D.junk)))) (D.bytes (X.dd
  (List.getD (List.getD rows 0 []) 4 (X.d D.junk)))) (D.rows (X.dd (List.getD (List.getD rows 0 []) 5 (X.d D.junk)))) (D.rows (X.dd (List.getD (List.getD rows 0 []) 6 (X.d D.junk)))) (D.rows
  (X.dd (List.getD (List.getD rows 0 []) 7 (X.d D.junk)))) (D.num (X.dd (List.getD (List.getD rows 0 []) 8 (X.d D.junk)))) (D.num (X.dd (List.getD (List.getD rows 0 []) 9 (X.d D.junk)))))
def r_a5ISIII_L5I (x : Option Out) (K : Int → ByteArray → Int → Int → Int → List (List D) → Int → Option Out) (P : D → List (List D) → Int → Option Out) : Option Out := retK [[(Lf.lst 5),
  (Lf.int IntKind.i64)]] (Sh.agg [(Lf.int IntKind.i64), Lf.str, (Lf.int IntKind.i64), (Lf.int IntKind.i64), (Lf.int IntKind.i64)]) x (fun v rows => K (D.num (X.dd (X.cell v 0))) (D.bytes
  (X.dd (X.cell v 1))) (D.num (X.dd (X.cell v 2))) (D.num (X.dd (X.cell v 3))) (D.num (X.dd (X.cell v 4))) (D.rows (X.dd (List.getD (List.getD rows 0 []) 0 (X.d D.junk)))) (D.num (X.dd
  (List.getD (List.getD rows 0 []) 1 (X.d D.junk))))) (fun d rows => P d (D.rows (X.dd (List.getD (List.getD rows 0 []) 0 (X.d D.junk)))) (D.num (X.dd (List.getD (List.getD rows 0 []) 1 (X.d
  D.junk)))))
theorem g_a5ISIII_L5I (y0 : Int) (y1 : ByteArray) (y2 : Int) (y3 : Int) (y4 : Int) (y5 : List (List D)) (y6 : Int) (K : Int → ByteArray → Int → Int → Int → List (List D) → Int → Option Out)
  (P : D → List (List D) → Int → Option Out) : r_a5ISIII_L5I (some (Out.mk true (V.agg [X.d (D.int IntKind.i64 y0), X.d (D.str y1), X.d (D.int IntKind.i64 y2), X.d (D.int IntKind.i64 y3), X.d
  (D.int IntKind.i64 y4)]) D.junk [[X.d (D.list 5 y5), X.d (D.int IntKind.i64 y6)]] 0)) K P = K y0 y1 y2 y3 y4 y5 y6 := rfl
theorem v_a5ISIII_L5I {x : Nat → Option Out} {K : Nat → Nat → Nat → Int → ByteArray → Int → Int → Int → List (List D) → Int → Option Out} {P : Nat → Nat → Nat → D → List (List D) → Int →
  Option Out} {o : Out} {y0 : Int} {y1 : ByteArray} {y2 : Int} {y3 : Int} {y4 : Int} {y5 : List (List D)} {y6 : Int} (h : Ev (fun _ k _ => x k) (Out.mk true (V.agg [X.d (D.int IntKind.i64
  y0), X.d (D.str y1), X.d (D.int IntKind.i64 y2), X.d (D.int IntKind.i64 y3), X.d (D.int IntKind.i64 y4)]) D.junk [[X.d (D.list 5 y5), X.d (D.int IntKind.i64 y6)]] 0)) (h2 : Ev (fun m k n =>
  K m k n y0 y1 y2 y3 y4 y5 y6) o) : Ev (fun m k n => r_a5ISIII_L5I (x k) (K m k n) (P m k n)) o := Ev.two h h2 fun m k n e => (congrArg (fun z => r_a5ISIII_L5I z (K m k n) (P m k n))
  e).trans (g_a5ISIII_L5I y0 y1 y2 y3 y4 y5 y6 _ _)
theorem p_a5ISIII_L5I (d : D) (y5 : List (List D)) (y6 : Int) (K : Int → ByteArray → Int → Int → Int → List (List D) → Int → Option Out) (P : D → List (List D) → Int → Option Out) :
  r_a5ISIII_L5I (some (Out.mk false V.junk d [[X.d (D.list 5 y5), X.d (D.int IntKind.i64 y6)]] 0)) K P = P d y5 y6 := rfl
theorem u_a5ISIII_L5I {x : Nat → Option Out} {K : Nat → Nat → Nat → Int → ByteArray → Int → Int → Int → List (List D) → Int → Option Out} {P : Nat → Nat → Nat → D → List (List D) → Int →
  Option Out} {o : Out} {d : D} {y5 : List (List D)} {y6 : Int} (h : Ev (fun _ k _ => x k) (Out.mk false V.junk d [[X.d (D.list 5 y5), X.d (D.int IntKind.i64 y6)]] 0)) (h2 : Ev (fun m k n =>
  P m k n d y5 y6) o) : Ev (fun m k n => r_a5ISIII_L5I (x k) (K m k n) (P m k n)) o := Ev.two h h2 fun m k n e => (congrArg (fun z => r_a5ISIII_L5I z (K m k n) (P m k n)) e).trans
  (p_a5ISIII_L5I d y5 y6 _ _)
def r_a5SIL2II_L5I (x : Option Out) (K : ByteArray → Int → List (List D) → Int → Int → List (List D) → Int → Option Out) (P : D → List (List D) → Int → Option Out) : Option Out := retK
  [[(Lf.lst 5), (Lf.int IntKind.i64)]] (Sh.agg [Lf.str, (Lf.int IntKind.i64), (Lf.lst 2), (Lf.int IntKind.i64), (Lf.int IntKind.i64)]) x (fun v rows => K (D.bytes (X.dd (X.cell v 0))) (D.num
  (X.dd (X.cell v 1))) (D.rows (X.dd (X.cell v 2))) (D.num (X.dd (X.cell v 3))) (D.num (X.dd (X.cell v 4))) (D.rows (X.dd (List.getD (List.getD rows 0 []) 0 (X.d D.junk)))) (D.num (X.dd
  (List.getD (List.getD rows 0 []) 1 (X.d D.junk))))) (fun d rows => P d (D.rows (X.dd (List.getD (List.getD rows 0 []) 0 (X.d D.junk)))) (D.num (X.dd (List.getD (List.getD rows 0 []) 1 (X.d
  D.junk)))))
theorem g_a5SIL2II_L5I (y0 : ByteArray) (y1 : Int) (y2 : List (List D)) (y3 : Int) (y4 : Int) (y5 : List (List D)) (y6 : Int) (K : ByteArray → Int → List (List D) → Int → Int → List (List D)
  → Int → Option Out) (P : D → List (List D) → Int → Option Out) : r_a5SIL2II_L5I (some (Out.mk true (V.agg [X.d (D.str y0), X.d (D.int IntKind.i64 y1), X.d (D.list 2 y2), X.d (D.int
  IntKind.i64 y3), X.d (D.int IntKind.i64 y4)]) D.junk [[X.d (D.list 5 y5), X.d (D.int IntKind.i64 y6)]] 0)) K P = K y0 y1 y2 y3 y4 y5 y6 := rfl
theorem v_a5SIL2II_L5I {x : Nat → Option Out} {K : Nat → Nat → Nat → ByteArray → Int → List (List D) → Int → Int → List (List D) → Int → Option Out} {P : Nat → Nat → Nat → D → List (List D) →
  Int → Option Out} {o : Out} {y0 : ByteArray} {y1 : Int} {y2 : List (List D)} {y3 : Int} {y4 : Int} {y5 : List (List D)} {y6 : Int} (h : Ev (fun _ k _ => x k) (Out.mk true (V.agg [X.d (D.str
  y0), X.d (D.int IntKind.i64 y1), X.d (D.list 2 y2), X.d (D.int IntKind.i64 y3), X.d (D.int IntKind.i64 y4)]) D.junk [[X.d (D.list 5 y5), X.d (D.int IntKind.i64 y6)]] 0)) (h2 : Ev (fun m k n
  => K m k n y0 y1 y2 y3 y4 y5 y6) o) : Ev (fun m k n => r_a5SIL2II_L5I (x k) (K m k n) (P m k n)) o := Ev.two h h2 fun m k n e => (congrArg (fun z => r_a5SIL2II_L5I z (K m k n) (P m k n))
  e).trans (g_a5SIL2II_L5I y0 y1 y2 y3 y4 y5 y6 _ _)
theorem p_a5SIL2II_L5I (d : D) (y5 : List (List D)) (y6 : Int) (K : ByteArray → Int → List (List D) → Int → Int → List (List D) → Int → Option Out) (P : D → List (List D) → Int → Option Out)
  : r_a5SIL2II_L5I (some (Out.mk false V.junk d [[X.d (D.list 5 y5), X.d (D.int IntKind.i64 y6)]] 0)) K P = P d y5 y6 := rfl
theorem u_a5SIL2II_L5I {x : Nat → Option Out} {K : Nat → Nat → Nat → ByteArray → Int → List (List D) → Int → Int → List (List D) → Int → Option Out} {P : Nat → Nat → Nat → D → List (List D) →
  Int → Option Out} {o : Out} {d : D} {y5 : List (List D)} {y6 : Int} (h : Ev (fun _ k _ => x k) (Out.mk false V.junk d [[X.d (D.list 5 y5), X.d (D.int IntKind.i64 y6)]] 0)) (h2 : Ev (fun m k
  n => P m k n d y5 y6) o) : Ev (fun m k n => r_a5SIL2II_L5I (x k) (K m k n) (P m k n)) o := Ev.two h h2 fun m k n e => (congrArg (fun z => r_a5SIL2II_L5I z (K m k n) (P m k n)) e).trans
  (p_a5SIL2II_L5I d y5 y6 _ _)
def r_a8IISL1L1L8II_L5I (x : Option Out) (K : Int → Int → ByteArray → List (List D) → List (List D) → List (List D) → Int → Int → List (List D) → Int → Option Out) (P : D → List (List D) →
  Int → Option Out) : Option Out := retK [[(Lf.lst 5), (Lf.int IntKind.i64)]] (Sh.agg [(Lf.int IntKind.i64), (Lf.int IntKind.i64), Lf.str, (Lf.lst 1), (Lf.lst 1), (Lf.lst 8), (Lf.int
  IntKind.i64), (Lf.int IntKind.i64)]) x (fun v rows => K (D.num (X.dd (X.cell v 0))) (D.num (X.dd (X.cell v 1))) (D.bytes (X.dd (X.cell v 2))) (D.rows (X.dd (X.cell v 3))) (D.rows (X.dd
  (X.cell v 4))) (D.rows (X.dd (X.cell v 5))) (D.num (X.dd (X.cell v 6))) (D.num (X.dd (X.cell v 7))) (D.rows (X.dd (List.getD (List.getD rows 0 []) 0 (X.d D.junk)))) (D.num (X.dd (List.getD
  (List.getD rows 0 []) 1 (X.d D.junk))))) (fun d rows => P d (D.rows (X.dd (List.getD (List.getD rows 0 []) 0 (X.d D.junk)))) (D.num (X.dd (List.getD (List.getD rows 0 []) 1 (X.d D.junk)))))
theorem g_a8IISL1L1L8II_L5I (y0 : Int) (y1 : Int) (y2 : ByteArray) (y3 : List (List D)) (y4 : List (List D)) (y5 : List (List D)) (y6 : Int) (y7 : Int) (y8 : List (List D)) (y9 : Int) (K :
  Int → Int → ByteArray → List (List D) → List (List D) → List (List D) → Int → Int → List (List D) → Int → Option Out) (P : D → List (List D) → Int → Option Out) : r_a8IISL1L1L8II_L5I (some
  (Out.mk true (V.agg [X.d (D.int IntKind.i64 y0), X.d (D.int IntKind.i64 y1), X.d (D.str y2), X.d (D.list 1 y3), X.d (D.list 1 y4), X.d (D.list 8 y5), X.d (D.int IntKind.i64 y6), X.d (D.int
  IntKind.i64 y7)]) D.junk [[X.d (D.list 5 y8), X.d (D.int IntKind.i64 y9)]] 0)) K P = K y0 y1 y2 y3 y4 y5 y6 y7 y8 y9 := rfl
theorem v_a8IISL1L1L8II_L5I {x : Nat → Option Out} {K : Nat → Nat → Nat → Int → Int → ByteArray → List (List D) → List (List D) → List (List D) → Int → Int → List (List D) → Int → Option Out}
  {P : Nat → Nat → Nat → D → List (List D) → Int → Option Out} {o : Out} {y0 : Int} {y1 : Int} {y2 : ByteArray} {y3 : List (List D)} {y4 : List (List D)} {y5 : List (List D)} {y6 : Int} {y7 :
  Int} {y8 : List (List D)} {y9 : Int} (h : Ev (fun _ k _ => x k) (Out.mk true (V.agg [X.d (D.int IntKind.i64 y0), X.d (D.int IntKind.i64 y1), X.d (D.str y2), X.d (D.list 1 y3), X.d (D.list 1
  y4), X.d (D.list 8 y5), X.d (D.int IntKind.i64 y6), X.d (D.int IntKind.i64 y7)]) D.junk [[X.d (D.list 5 y8), X.d (D.int IntKind.i64 y9)]] 0)) (h2 : Ev (fun m k n => K m k n y0 y1 y2 y3 y4
  y5 y6 y7 y8 y9) o) : Ev (fun m k n => r_a8IISL1L1L8II_L5I (x k) (K m k n) (P m k n)) o := Ev.two h h2 fun m k n e => (congrArg (fun z => r_a8IISL1L1L8II_L5I z (K m k n) (P m k n)) e).trans
  (g_a8IISL1L1L8II_L5I y0 y1 y2 y3 y4 y5 y6 y7 y8 y9 _ _)
theorem p_a8IISL1L1L8II_L5I (d : D) (y8 : List (List D)) (y9 : Int) (K : Int → Int → ByteArray → List (List D) → List (List D) → List (List D) → Int → Int → List (List D) → Int → Option Out)
  (P : D → List (List D) → Int → Option Out) : r_a8IISL1L1L8II_L5I (some (Out.mk false V.junk d [[X.d (D.list 5 y8), X.d (D.int IntKind.i64 y9)]] 0)) K P = P d y8 y9 := rfl
theorem u_a8IISL1L1L8II_L5I {x : Nat → Option Out} {K : Nat → Nat → Nat → Int → Int → ByteArray → List (List D) → List (List D) → List (List D) → Int → Int → List (List D) → Int → Option Out}
  {P : Nat → Nat → Nat → D → List (List D) → Int → Option Out} {o : Out} {d : D} {y8 : List (List D)} {y9 : Int} (h : Ev (fun _ k _ => x k) (Out.mk false V.junk d [[X.d (D.list 5 y8), X.d
  (D.int IntKind.i64 y9)]] 0)) (h2 : Ev (fun m k n => P m k n d y8 y9) o) : Ev (fun m k n => r_a8IISL1L1L8II_L5I (x k) (K m k n) (P m k n)) o := Ev.two h h2 fun m k n e => (congrArg (fun z =>
  r_a8IISL1L1L8II_L5I z (K m k n) (P m k n)) e).trans (p_a8IISL1L1L8II_L5I d y8 y9 _ _)
def r_a8IISN1N1N8II (x : Option Out) (K : Int → Int → ByteArray → Int → Int → Option Out) (P : D → Option Out) : Option Out := retK [] (Sh.agg [(Lf.int IntKind.i64), (Lf.int IntKind.i64),
  Lf.str, (Lf.nil 1), (Lf.nil 1), (Lf.nil 8), (Lf.int IntKind.i64), (Lf.int IntKind.i64)]) x (fun v rows => K (D.num (X.dd (X.cell v 0))) (D.num (X.dd (X.cell v 1))) (D.bytes (X.dd (X.cell v
  2))) (D.num (X.dd (X.cell v 6))) (D.num (X.dd (X.cell v 7)))) (fun d rows => P d )
theorem g_a8IISN1N1N8II (y0 : Int) (y1 : Int) (y2 : ByteArray) (y3 : Int) (y4 : Int) (K : Int → Int → ByteArray → Int → Int → Option Out) (P : D → Option Out) : r_a8IISN1N1N8II (some (Out.mk
  true (V.agg [X.d (D.int IntKind.i64 y0), X.d (D.int IntKind.i64 y1), X.d (D.str y2), X.nilL 1, X.nilL 1, X.nilL 8, X.d (D.int IntKind.i64 y3), X.d (D.int IntKind.i64 y4)]) D.junk [] 0)) K P
  = K y0 y1 y2 y3 y4 := rfl
theorem v_a8IISN1N1N8II {x : Nat → Option Out} {K : Nat → Nat → Nat → Int → Int → ByteArray → Int → Int → Option Out} {P : Nat → Nat → Nat → D → Option Out} {o : Out} {y0 : Int} {y1 : Int}
  {y2 : ByteArray} {y3 : Int} {y4 : Int} (h : Ev (fun _ k _ => x k) (Out.mk true (V.agg [X.d (D.int IntKind.i64 y0), X.d (D.int IntKind.i64 y1), X.d (D.str y2), X.nilL 1, X.nilL 1, X.nilL 8,
  X.d (D.int IntKind.i64 y3), X.d (D.int IntKind.i64 y4)]) D.junk [] 0)) (h2 : Ev (fun m k n => K m k n y0 y1 y2 y3 y4) o) : Ev (fun m k n => r_a8IISN1N1N8II (x k) (K m k n) (P m k n)) o :=
  Ev.two h h2 fun m k n e => (congrArg (fun z => r_a8IISN1N1N8II z (K m k n) (P m k n)) e).trans (g_a8IISN1N1N8II y0 y1 y2 y3 y4 _ _)
def r_n_L5I (x : Option Out) (K : List (List D) → Int → Option Out) (P : D → List (List D) → Int → Option Out) : Option Out := retK [[(Lf.lst 5), (Lf.int IntKind.i64)]] Sh.none x (fun v rows
  => K (D.rows (X.dd (List.getD (List.getD rows 0 []) 0 (X.d D.junk)))) (D.num (X.dd (List.getD (List.getD rows 0 []) 1 (X.d D.junk))))) (fun d rows => P d (D.rows (X.dd (List.getD (List.getD
  rows 0 []) 0 (X.d D.junk)))) (D.num (X.dd (List.getD (List.getD rows 0 []) 1 (X.d D.junk)))))
theorem g_n_L5I (vv : V) (y0 : List (List D)) (y1 : Int) (K : List (List D) → Int → Option Out) (P : D → List (List D) → Int → Option Out) : r_n_L5I (some (Out.mk true (vv) D.junk [[X.d
  (D.list 5 y0), X.d (D.int IntKind.i64 y1)]] 0)) K P = K y0 y1 := rfl
theorem v_n_L5I {x : Nat → Option Out} {K : Nat → Nat → Nat → List (List D) → Int → Option Out} {P : Nat → Nat → Nat → D → List (List D) → Int → Option Out} {o : Out} {vv : V} {y0 : List
  (List D)} {y1 : Int} (h : Ev (fun _ k _ => x k) (Out.mk true (vv) D.junk [[X.d (D.list 5 y0), X.d (D.int IntKind.i64 y1)]] 0)) (h2 : Ev (fun m k n => K m k n y0 y1) o) : Ev (fun m k n =>
  r_n_L5I (x k) (K m k n) (P m k n)) o := Ev.two h h2 fun m k n e => (congrArg (fun z => r_n_L5I z (K m k n) (P m k n)) e).trans (g_n_L5I vv y0 y1 _ _)
theorem p_n_L5I (d : D) (y0 : List (List D)) (y1 : Int) (K : List (List D) → Int → Option Out) (P : D → List (List D) → Int → Option Out) : r_n_L5I (some (Out.mk false V.junk d [[X.d (D.list
  5 y0), X.d (D.int IntKind.i64 y1)]] 0)) K P = P d y0 y1 := rfl
theorem u_n_L5I {x : Nat → Option Out} {K : Nat → Nat → Nat → List (List D) → Int → Option Out} {P : Nat → Nat → Nat → D → List (List D) → Int → Option Out} {o : Out} {d : D} {y0 : List (List
  D)} {y1 : Int} (h : Ev (fun _ k _ => x k) (Out.mk false V.junk d [[X.d (D.list 5 y0), X.d (D.int IntKind.i64 y1)]] 0)) (h2 : Ev (fun m k n => P m k n d y0 y1) o) : Ev (fun m k n => r_n_L5I
  (x k) (K m k n) (P m k n)) o := Ev.two h h2 fun m k n e => (congrArg (fun z => r_n_L5I z (K m k n) (P m k n)) e).trans (p_n_L5I d y0 y1 _ _)
def r_n_L5I_IISL1L1L8II (x : Option Out) (K : List (List D) → Int → Int → Int → ByteArray → List (List D) → List (List D) → List (List D) → Int → Int → Option Out) (P : D → List (List D) →
  Int → Int → Int → ByteArray → List (List D) → List (List D) → List (List D) → Int → Int → Option Out) : Option Out := retK [[(Lf.lst 5), (Lf.int IntKind.i64)], [(Lf.int IntKind.i64),
  (Lf.int IntKind.i64), Lf.str, (Lf.lst 1), (Lf.lst 1), (Lf.lst 8), (Lf.int IntKind.i64), (Lf.int IntKind.i64)]] Sh.none x (fun v rows => K (D.rows (X.dd (List.getD (List.getD rows 0 []) 0
  (X.d D.junk)))) (D.num (X.dd (List.getD (List.getD rows 0 []) 1 (X.d D.junk)))) (D.num (X.dd (List.getD (List.getD rows 1 []) 0 (X.d D.junk)))) (D.num (X.dd (List.getD (List.getD rows 1 [])
  1 (X.d D.junk)))) (D.bytes (X.dd (List.getD (List.getD rows 1 []) 2 (X.d D.junk)))) (D.rows (X.dd (List.getD (List.getD rows 1 []) 3 (X.d D.junk)))) (D.rows (X.dd (List.getD (List.getD rows
  1 []) 4 (X.d D.junk)))) (D.rows (X.dd (List.getD (List.getD rows 1 []) 5 (X.d D.junk)))) (D.num (X.dd (List.getD (List.getD rows 1 []) 6 (X.d D.junk)))) (D.num (X.dd (List.getD (List.getD
  rows 1 []) 7 (X.d D.junk))))) (fun d rows => P d (D.rows (X.dd (List.getD (List.getD rows 0 []) 0 (X.d D.junk)))) (D.num (X.dd (List.getD (List.getD rows 0 []) 1 (X.d D.junk)))) (D.num
  (X.dd (List.getD (List.getD rows 1 []) 0 (X.d D.junk)))) (D.num (X.dd (List.getD (List.getD rows 1 []) 1 (X.d D.junk)))) (D.bytes (X.dd (List.getD (List.getD rows 1 []) 2 (X.d D.junk))))
  (D.rows (X.dd (List.getD (List.getD rows 1 []) 3 (X.d D.junk)))) (D.rows (X.dd (List.getD (List.getD rows 1 []) 4 (X.d D.junk)))) (D.rows (X.dd (List.getD (List.getD rows 1 []) 5 (X.d
  D.junk)))) (D.num (X.dd (List.getD (List.getD rows 1 []) 6 (X.d D.junk)))) (D.num (X.dd (List.getD (List.getD rows 1 []) 7 (X.d D.junk)))))
def r_n_L5I_L5L14IISL1L1L8II (x : Option Out) (K : List (List D) → Int → List (List D) → List (List D) → Int → Int → ByteArray → List (List D) → List (List D) → List (List D) → Int → Int →
  Option Out) (P : D → List (List D) → Int → List (List D) → List (List D) → Int → Int → ByteArray → List (List D) → List (List D) → List (List D) → Int → Int → Option Out) : Option Out :=
  retK [[(Lf.lst 5), (Lf.int IntKind.i64)], [(Lf.lst 5), (Lf.lst 14), (Lf.int IntKind.i64), (Lf.int IntKind.i64), Lf.str, (Lf.lst 1), (Lf.lst 1), (Lf.lst 8), (Lf.int IntKind.i64), (Lf.int
  IntKind.i64)]] Sh.none x (fun v rows => K (D.rows (X.dd (List.getD (List.getD rows 0 []) 0 (X.d D.junk)))) (D.num (X.dd (List.getD (List.getD rows 0 []) 1 (X.d D.junk)))) (D.rows (X.dd
  (List.getD (List.getD rows 1 []) 0 (X.d D.junk)))) (D.rows (X.dd (List.getD (List.getD rows 1 []) 1 (X.d D.junk)))) (D.num (X.dd (List.getD (List.getD rows 1 []) 2 (X.d D.junk)))) (D.num
  (X.dd (List.getD (List.getD rows 1 []) 3 (X.d D.junk)))) (D.bytes (X.dd (List.getD (List.getD rows 1 []) 4 (X.d D.junk)))) (D.rows (X.dd (List.getD (List.getD rows 1 []) 5 (X.d D.junk))))
  (D.rows (X.dd (List.getD (List.getD rows 1 []) 6 (X.d D.junk)))) (D.rows (X.dd (List.getD (List.getD rows 1 []) 7 (X.d D.junk)))) (D.num (X.dd (List.getD (List.getD rows 1 []) 8 (X.d
  D.junk)))) (D.num (X.dd (List.getD (List.getD rows 1 []) 9 (X.d D.junk))))) (fun d rows => P d (D.rows (X.dd (List.getD (List.getD rows 0 []) 0 (X.d D.junk)))) (D.num (X.dd (List.getD
  (List.getD rows 0 []) 1 (X.d D.junk)))) (D.rows (X.dd (List.getD (List.getD rows 1 []) 0 (X.d D.junk)))) (D.rows (X.dd (List.getD (List.getD rows 1 []) 1 (X.d D.junk)))) (D.num (X.dd
  (List.getD (List.getD rows 1 []) 2 (X.d D.junk)))) (D.num (X.dd (List.getD (List.getD rows 1 []) 3 (X.d D.junk)))) (D.bytes (X.dd (List.getD (List.getD rows 1 []) 4 (X.d D.junk)))) (D.rows
  (X.dd (List.getD (List.getD rows 1 []) 5 (X.d D.junk)))) (D.rows (X.dd (List.getD (List.getD rows 1 []) 6 (X.d D.junk)))) (D.rows (X.dd (List.getD (List.getD rows 1 []) 7 (X.d D.junk))))
  (D.num (X.dd (List.getD (List.getD rows 1 []) 8 (X.d D.junk)))) (D.num (X.dd (List.getD (List.getD rows 1 []) 9 (X.d D.junk)))))
def r_oB (x : Option Out) (K : Bool → Option Out) (P : D → Option Out) : Option Out := retK [] (Sh.one Lf.bool) x (fun v rows => K (D.bit (X.dd (X.cell v 0)))) (fun d rows => P d )
theorem g_oB (y0 : Bool) (K : Bool → Option Out) (P : D → Option Out) : r_oB (some (Out.mk true (V.one (X.d (D.bool y0))) D.junk [] 0)) K P = K y0 := rfl
theorem v_oB {x : Nat → Option Out} {K : Nat → Nat → Nat → Bool → Option Out} {P : Nat → Nat → Nat → D → Option Out} {o : Out} {y0 : Bool} (h : Ev (fun _ k _ => x k) (Out.mk true (V.one (X.d
  (D.bool y0))) D.junk [] 0)) (h2 : Ev (fun m k n => K m k n y0) o) : Ev (fun m k n => r_oB (x k) (K m k n) (P m k n)) o := Ev.two h h2 fun m k n e => (congrArg (fun z => r_oB z (K m k n) (P
  m k n)) e).trans (g_oB y0 _ _)
def r_oB_L5I (x : Option Out) (K : Bool → List (List D) → Int → Option Out) (P : D → List (List D) → Int → Option Out) : Option Out := retK [[(Lf.lst 5), (Lf.int IntKind.i64)]] (Sh.one
  Lf.bool) x (fun v rows => K (D.bit (X.dd (X.cell v 0))) (D.rows (X.dd (List.getD (List.getD rows 0 []) 0 (X.d D.junk)))) (D.num (X.dd (List.getD (List.getD rows 0 []) 1 (X.d D.junk)))))
  (fun d rows => P d (D.rows (X.dd (List.getD (List.getD rows 0 []) 0 (X.d D.junk)))) (D.num (X.dd (List.getD (List.getD rows 0 []) 1 (X.d D.junk)))))
theorem g_oB_L5I (y0 : Bool) (y1 : List (List D)) (y2 : Int) (K : Bool → List (List D) → Int → Option Out) (P : D → List (List D) → Int → Option Out) : r_oB_L5I (some (Out.mk true (V.one (X.d
  (D.bool y0))) D.junk [[X.d (D.list 5 y1), X.d (D.int IntKind.i64 y2)]] 0)) K P = K y0 y1 y2 := rfl
theorem v_oB_L5I {x : Nat → Option Out} {K : Nat → Nat → Nat → Bool → List (List D) → Int → Option Out} {P : Nat → Nat → Nat → D → List (List D) → Int → Option Out} {o : Out} {y0 : Bool} {y1
  : List (List D)} {y2 : Int} (h : Ev (fun _ k _ => x k) (Out.mk true (V.one (X.d (D.bool y0))) D.junk [[X.d (D.list 5 y1), X.d (D.int IntKind.i64 y2)]] 0)) (h2 : Ev (fun m k n => K m k n y0
  y1 y2) o) : Ev (fun m k n => r_oB_L5I (x k) (K m k n) (P m k n)) o := Ev.two h h2 fun m k n e => (congrArg (fun z => r_oB_L5I z (K m k n) (P m k n)) e).trans (g_oB_L5I y0 y1 y2 _ _)
def r_oI (x : Option Out) (K : Int → Option Out) (P : D → Option Out) : Option Out := retK [] (Sh.one (Lf.int IntKind.i64)) x (fun v rows => K (D.num (X.dd (X.cell v 0)))) (fun d rows => P d
  )
theorem g_oI (y0 : Int) (K : Int → Option Out) (P : D → Option Out) : r_oI (some (Out.mk true (V.one (X.d (D.int IntKind.i64 y0))) D.junk [] 0)) K P = K y0 := rfl
theorem v_oI {x : Nat → Option Out} {K : Nat → Nat → Nat → Int → Option Out} {P : Nat → Nat → Nat → D → Option Out} {o : Out} {y0 : Int} (h : Ev (fun _ k _ => x k) (Out.mk true (V.one (X.d
  (D.int IntKind.i64 y0))) D.junk [] 0)) (h2 : Ev (fun m k n => K m k n y0) o) : Ev (fun m k n => r_oI (x k) (K m k n) (P m k n)) o := Ev.two h h2 fun m k n e => (congrArg (fun z => r_oI z (K
  m k n) (P m k n)) e).trans (g_oI y0 _ _)
def r_oI_L5I (x : Option Out) (K : Int → List (List D) → Int → Option Out) (P : D → List (List D) → Int → Option Out) : Option Out := retK [[(Lf.lst 5), (Lf.int IntKind.i64)]] (Sh.one (Lf.int
  IntKind.i64)) x (fun v rows => K (D.num (X.dd (X.cell v 0))) (D.rows (X.dd (List.getD (List.getD rows 0 []) 0 (X.d D.junk)))) (D.num (X.dd (List.getD (List.getD rows 0 []) 1 (X.d
  D.junk))))) (fun d rows => P d (D.rows (X.dd (List.getD (List.getD rows 0 []) 0 (X.d D.junk)))) (D.num (X.dd (List.getD (List.getD rows 0 []) 1 (X.d D.junk)))))
theorem g_oI_L5I (y0 : Int) (y1 : List (List D)) (y2 : Int) (K : Int → List (List D) → Int → Option Out) (P : D → List (List D) → Int → Option Out) : r_oI_L5I (some (Out.mk true (V.one (X.d
  (D.int IntKind.i64 y0))) D.junk [[X.d (D.list 5 y1), X.d (D.int IntKind.i64 y2)]] 0)) K P = K y0 y1 y2 := rfl
theorem v_oI_L5I {x : Nat → Option Out} {K : Nat → Nat → Nat → Int → List (List D) → Int → Option Out} {P : Nat → Nat → Nat → D → List (List D) → Int → Option Out} {o : Out} {y0 : Int} {y1 :
  List (List D)} {y2 : Int} (h : Ev (fun _ k _ => x k) (Out.mk true (V.one (X.d (D.int IntKind.i64 y0))) D.junk [[X.d (D.list 5 y1), X.d (D.int IntKind.i64 y2)]] 0)) (h2 : Ev (fun m k n => K
  m k n y0 y1 y2) o) : Ev (fun m k n => r_oI_L5I (x k) (K m k n) (P m k n)) o := Ev.two h h2 fun m k n e => (congrArg (fun z => r_oI_L5I z (K m k n) (P m k n)) e).trans (g_oI_L5I y0 y1 y2 _
  _)
theorem p_oI_L5I (d : D) (y1 : List (List D)) (y2 : Int) (K : Int → List (List D) → Int → Option Out) (P : D → List (List D) → Int → Option Out) : r_oI_L5I (some (Out.mk false V.junk d [[X.d
  (D.list 5 y1), X.d (D.int IntKind.i64 y2)]] 0)) K P = P d y1 y2 := rfl
theorem u_oI_L5I {x : Nat → Option Out} {K : Nat → Nat → Nat → Int → List (List D) → Int → Option Out} {P : Nat → Nat → Nat → D → List (List D) → Int → Option Out} {o : Out} {d : D} {y1 :
  List (List D)} {y2 : Int} (h : Ev (fun _ k _ => x k) (Out.mk false V.junk d [[X.d (D.list 5 y1), X.d (D.int IntKind.i64 y2)]] 0)) (h2 : Ev (fun m k n => P m k n d y1 y2) o) : Ev (fun m k n
  => r_oI_L5I (x k) (K m k n) (P m k n)) o := Ev.two h h2 fun m k n e => (congrArg (fun z => r_oI_L5I z (K m k n) (P m k n)) e).trans (p_oI_L5I d y1 y2 _ _)
def r_oL1_L5I (x : Option Out) (K : List (List D) → List (List D) → Int → Option Out) (P : D → List (List D) → Int → Option Out) : Option Out := retK [[(Lf.lst 5), (Lf.int IntKind.i64)]]
  (Sh.one (Lf.lst 1)) x (fun v rows => K (D.rows (X.dd (X.cell v 0))) (D.rows (X.dd (List.getD (List.getD rows 0 []) 0 (X.d D.junk)))) (D.num (X.dd (List.getD (List.getD rows 0 []) 1 (X.d
  D.junk))))) (fun d rows => P d (D.rows (X.dd (List.getD (List.getD rows 0 []) 0 (X.d D.junk)))) (D.num (X.dd (List.getD (List.getD rows 0 []) 1 (X.d D.junk)))))
theorem g_oL1_L5I (y0 : List (List D)) (y1 : List (List D)) (y2 : Int) (K : List (List D) → List (List D) → Int → Option Out) (P : D → List (List D) → Int → Option Out) : r_oL1_L5I (some
  (Out.mk true (V.one (X.d (D.list 1 y0))) D.junk [[X.d (D.list 5 y1), X.d (D.int IntKind.i64 y2)]] 0)) K P = K y0 y1 y2 := rfl
theorem v_oL1_L5I {x : Nat → Option Out} {K : Nat → Nat → Nat → List (List D) → List (List D) → Int → Option Out} {P : Nat → Nat → Nat → D → List (List D) → Int → Option Out} {o : Out} {y0 :
  List (List D)} {y1 : List (List D)} {y2 : Int} (h : Ev (fun _ k _ => x k) (Out.mk true (V.one (X.d (D.list 1 y0))) D.junk [[X.d (D.list 5 y1), X.d (D.int IntKind.i64 y2)]] 0)) (h2 : Ev (fun
  m k n => K m k n y0 y1 y2) o) : Ev (fun m k n => r_oL1_L5I (x k) (K m k n) (P m k n)) o := Ev.two h h2 fun m k n e => (congrArg (fun z => r_oL1_L5I z (K m k n) (P m k n)) e).trans
  (g_oL1_L5I y0 y1 y2 _ _)
theorem p_oL1_L5I (d : D) (y1 : List (List D)) (y2 : Int) (K : List (List D) → List (List D) → Int → Option Out) (P : D → List (List D) → Int → Option Out) : r_oL1_L5I (some (Out.mk false
  V.junk d [[X.d (D.list 5 y1), X.d (D.int IntKind.i64 y2)]] 0)) K P = P d y1 y2 := rfl
theorem u_oL1_L5I {x : Nat → Option Out} {K : Nat → Nat → Nat → List (List D) → List (List D) → Int → Option Out} {P : Nat → Nat → Nat → D → List (List D) → Int → Option Out} {o : Out} {d :
  D} {y1 : List (List D)} {y2 : Int} (h : Ev (fun _ k _ => x k) (Out.mk false V.junk d [[X.d (D.list 5 y1), X.d (D.int IntKind.i64 y2)]] 0)) (h2 : Ev (fun m k n => P m k n d y1 y2) o) : Ev
  (fun m k n => r_oL1_L5I (x k) (K m k n) (P m k n)) o := Ev.two h h2 fun m k n e => (congrArg (fun z => r_oL1_L5I z (K m k n) (P m k n)) e).trans (p_oL1_L5I d y1 y2 _ _)
def r_oL8_L5I (x : Option Out) (K : List (List D) → List (List D) → Int → Option Out) (P : D → List (List D) → Int → Option Out) : Option Out := retK [[(Lf.lst 5), (Lf.int IntKind.i64)]]
  (Sh.one (Lf.lst 8)) x (fun v rows => K (D.rows (X.dd (X.cell v 0))) (D.rows (X.dd (List.getD (List.getD rows 0 []) 0 (X.d D.junk)))) (D.num (X.dd (List.getD (List.getD rows 0 []) 1 (X.d
  D.junk))))) (fun d rows => P d (D.rows (X.dd (List.getD (List.getD rows 0 []) 0 (X.d D.junk)))) (D.num (X.dd (List.getD (List.getD rows 0 []) 1 (X.d D.junk)))))
theorem g_oL8_L5I (y0 : List (List D)) (y1 : List (List D)) (y2 : Int) (K : List (List D) → List (List D) → Int → Option Out) (P : D → List (List D) → Int → Option Out) : r_oL8_L5I (some
  (Out.mk true (V.one (X.d (D.list 8 y0))) D.junk [[X.d (D.list 5 y1), X.d (D.int IntKind.i64 y2)]] 0)) K P = K y0 y1 y2 := rfl
theorem v_oL8_L5I {x : Nat → Option Out} {K : Nat → Nat → Nat → List (List D) → List (List D) → Int → Option Out} {P : Nat → Nat → Nat → D → List (List D) → Int → Option Out} {o : Out} {y0 :
  List (List D)} {y1 : List (List D)} {y2 : Int} (h : Ev (fun _ k _ => x k) (Out.mk true (V.one (X.d (D.list 8 y0))) D.junk [[X.d (D.list 5 y1), X.d (D.int IntKind.i64 y2)]] 0)) (h2 : Ev (fun
  m k n => K m k n y0 y1 y2) o) : Ev (fun m k n => r_oL8_L5I (x k) (K m k n) (P m k n)) o := Ev.two h h2 fun m k n e => (congrArg (fun z => r_oL8_L5I z (K m k n) (P m k n)) e).trans
  (g_oL8_L5I y0 y1 y2 _ _)
theorem p_oL8_L5I (d : D) (y1 : List (List D)) (y2 : Int) (K : List (List D) → List (List D) → Int → Option Out) (P : D → List (List D) → Int → Option Out) : r_oL8_L5I (some (Out.mk false
  V.junk d [[X.d (D.list 5 y1), X.d (D.int IntKind.i64 y2)]] 0)) K P = P d y1 y2 := rfl
theorem u_oL8_L5I {x : Nat → Option Out} {K : Nat → Nat → Nat → List (List D) → List (List D) → Int → Option Out} {P : Nat → Nat → Nat → D → List (List D) → Int → Option Out} {o : Out} {d :
  D} {y1 : List (List D)} {y2 : Int} (h : Ev (fun _ k _ => x k) (Out.mk false V.junk d [[X.d (D.list 5 y1), X.d (D.int IntKind.i64 y2)]] 0)) (h2 : Ev (fun m k n => P m k n d y1 y2) o) : Ev
  (fun m k n => r_oL8_L5I (x k) (K m k n) (P m k n)) o := Ev.two h h2 fun m k n e => (congrArg (fun z => r_oL8_L5I z (K m k n) (P m k n)) e).trans (p_oL8_L5I d y1 y2 _ _)
def r_oS (x : Option Out) (K : ByteArray → Option Out) (P : D → Option Out) : Option Out := retK [] (Sh.one Lf.str) x (fun v rows => K (D.bytes (X.dd (X.cell v 0)))) (fun d rows => P d )
def r_oS_L5I (x : Option Out) (K : ByteArray → List (List D) → Int → Option Out) (P : D → List (List D) → Int → Option Out) : Option Out := retK [[(Lf.lst 5), (Lf.int IntKind.i64)]] (Sh.one
  Lf.str) x (fun v rows => K (D.bytes (X.dd (X.cell v 0))) (D.rows (X.dd (List.getD (List.getD rows 0 []) 0 (X.d D.junk)))) (D.num (X.dd (List.getD (List.getD rows 0 []) 1 (X.d D.junk)))))
  (fun d rows => P d (D.rows (X.dd (List.getD (List.getD rows 0 []) 0 (X.d D.junk)))) (D.num (X.dd (List.getD (List.getD rows 0 []) 1 (X.d D.junk)))))
theorem g_oS_L5I (y0 : ByteArray) (y1 : List (List D)) (y2 : Int) (K : ByteArray → List (List D) → Int → Option Out) (P : D → List (List D) → Int → Option Out) : r_oS_L5I (some (Out.mk true
  (V.one (X.d (D.str y0))) D.junk [[X.d (D.list 5 y1), X.d (D.int IntKind.i64 y2)]] 0)) K P = K y0 y1 y2 := rfl
theorem v_oS_L5I {x : Nat → Option Out} {K : Nat → Nat → Nat → ByteArray → List (List D) → Int → Option Out} {P : Nat → Nat → Nat → D → List (List D) → Int → Option Out} {o : Out} {y0 :
  ByteArray} {y1 : List (List D)} {y2 : Int} (h : Ev (fun _ k _ => x k) (Out.mk true (V.one (X.d (D.str y0))) D.junk [[X.d (D.list 5 y1), X.d (D.int IntKind.i64 y2)]] 0)) (h2 : Ev (fun m k n
  => K m k n y0 y1 y2) o) : Ev (fun m k n => r_oS_L5I (x k) (K m k n) (P m k n)) o := Ev.two h h2 fun m k n e => (congrArg (fun z => r_oS_L5I z (K m k n) (P m k n)) e).trans (g_oS_L5I y0 y1
  y2 _ _)
def r_t2a5ISIIIoI (x : Option Out) (K : Int → ByteArray → Int → Int → Int → Int → Option Out) (P : D → Option Out) : Option Out := retK [] (Sh.tup [(Sh.agg [(Lf.int IntKind.i64), Lf.str,
  (Lf.int IntKind.i64), (Lf.int IntKind.i64), (Lf.int IntKind.i64)]), (Sh.one (Lf.int IntKind.i64))]) x (fun v rows => K (D.num (X.dd (X.cell (V.comp v 0) 0))) (D.bytes (X.dd (X.cell (V.comp
  v 0) 1))) (D.num (X.dd (X.cell (V.comp v 0) 2))) (D.num (X.dd (X.cell (V.comp v 0) 3))) (D.num (X.dd (X.cell (V.comp v 0) 4))) (D.num (X.dd (X.cell (V.comp v 1) 0)))) (fun d rows => P d )
def r_t2a8IISL1L1L8IIoB (x : Option Out) (K : Int → Int → ByteArray → List (List D) → List (List D) → List (List D) → Int → Int → Bool → Option Out) (P : D → Option Out) : Option Out := retK
  [] (Sh.tup [(Sh.agg [(Lf.int IntKind.i64), (Lf.int IntKind.i64), Lf.str, (Lf.lst 1), (Lf.lst 1), (Lf.lst 8), (Lf.int IntKind.i64), (Lf.int IntKind.i64)]), (Sh.one Lf.bool)]) x (fun v rows
  => K (D.num (X.dd (X.cell (V.comp v 0) 0))) (D.num (X.dd (X.cell (V.comp v 0) 1))) (D.bytes (X.dd (X.cell (V.comp v 0) 2))) (D.rows (X.dd (X.cell (V.comp v 0) 3))) (D.rows (X.dd (X.cell
  (V.comp v 0) 4))) (D.rows (X.dd (X.cell (V.comp v 0) 5))) (D.num (X.dd (X.cell (V.comp v 0) 6))) (D.num (X.dd (X.cell (V.comp v 0) 7))) (D.bit (X.dd (X.cell (V.comp v 1) 0)))) (fun d rows
  => P d )
theorem g_t2a8IISL1L1L8IIoB (y0 : Int) (y1 : Int) (y2 : ByteArray) (y3 : List (List D)) (y4 : List (List D)) (y5 : List (List D)) (y6 : Int) (y7 : Int) (y8 : Bool) (K : Int → Int → ByteArray
  → List (List D) → List (List D) → List (List D) → Int → Int → Bool → Option Out) (P : D → Option Out) : r_t2a8IISL1L1L8IIoB (some (Out.mk true (V.tup [V.agg [X.d (D.int IntKind.i64 y0), X.d
  (D.int IntKind.i64 y1), X.d (D.str y2), X.d (D.list 1 y3), X.d (D.list 1 y4), X.d (D.list 8 y5), X.d (D.int IntKind.i64 y6), X.d (D.int IntKind.i64 y7)], V.one (X.d (D.bool y8))]) D.junk []
  0)) K P = K y0 y1 y2 y3 y4 y5 y6 y7 y8 := rfl
theorem v_t2a8IISL1L1L8IIoB {x : Nat → Option Out} {K : Nat → Nat → Nat → Int → Int → ByteArray → List (List D) → List (List D) → List (List D) → Int → Int → Bool → Option Out} {P : Nat → Nat
  → Nat → D → Option Out} {o : Out} {y0 : Int} {y1 : Int} {y2 : ByteArray} {y3 : List (List D)} {y4 : List (List D)} {y5 : List (List D)} {y6 : Int} {y7 : Int} {y8 : Bool} (h : Ev (fun _ k _
  => x k) (Out.mk true (V.tup [V.agg [X.d (D.int IntKind.i64 y0), X.d (D.int IntKind.i64 y1), X.d (D.str y2), X.d (D.list 1 y3), X.d (D.list 1 y4), X.d (D.list 8 y5), X.d (D.int IntKind.i64
  y6), X.d (D.int IntKind.i64 y7)], V.one (X.d (D.bool y8))]) D.junk [] 0)) (h2 : Ev (fun m k n => K m k n y0 y1 y2 y3 y4 y5 y6 y7 y8) o) : Ev (fun m k n => r_t2a8IISL1L1L8IIoB (x k) (K m k
  n) (P m k n)) o := Ev.two h h2 fun m k n e => (congrArg (fun z => r_t2a8IISL1L1L8IIoB z (K m k n) (P m k n)) e).trans (g_t2a8IISL1L1L8IIoB y0 y1 y2 y3 y4 y5 y6 y7 y8 _ _)
def r_t2oL5a4ISII (x : Option Out) (K : List (List D) → Int → ByteArray → Int → Int → Option Out) (P : D → Option Out) : Option Out := retK [] (Sh.tup [(Sh.one (Lf.lst 5)), (Sh.agg [(Lf.int
  IntKind.i64), Lf.str, (Lf.int IntKind.i64), (Lf.int IntKind.i64)])]) x (fun v rows => K (D.rows (X.dd (X.cell (V.comp v 0) 0))) (D.num (X.dd (X.cell (V.comp v 1) 0))) (D.bytes (X.dd (X.cell
  (V.comp v 1) 1))) (D.num (X.dd (X.cell (V.comp v 1) 2))) (D.num (X.dd (X.cell (V.comp v 1) 3)))) (fun d rows => P d )
end Go.Proofs.Ytbmcafehpgimfaa.Ps
