/- What comes back from a call, taken apart. Printed by pack4.py. -/
import Derived.Test.YtaphnbaiamnfpaaDoorQw3
import Derived.Test.YtaphnbaiamnfpaaDoorPsV
namespace Go.Proofs.YtaphnbaiamnfpaaDoor.Ps
set_option maxHeartbeats 0
set_option maxRecDepth 100000
set_option linter.unusedVariables false
open Go Go.RowKit
theorem call_step {f : FuncId} {fn : SFunc} {args : List V} {rows : List (List Lf × List X)} {k : Nat} (h : progV f = some fn) (hn : Nat.beq args.length fn.nparams = true) :
    Ak (k + 1) false f args rows = runF (Ak k) shp rc false (shp f) fn k args rows := by
  have e : Ak (k + 1) false f args rows = (match progV f with
    | some fn => cond (Nat.beq args.length fn.nparams) (runF (Ak k) shp rc false (shp f) fn k args rows) none
    | none => cond false none (libV (Ak k false) f args rows)) := rfl
  rw [e, h]
  show cond _ _ _ = _
  rw [hn]
  rfl
def Ev (F : Nat → Nat → Nat → Option Out) (o : Out) : Prop := ∃ K, ∀ m k n, K ≤ m → K ≤ k → K ≤ n → F m k n = some o
abbrev Cal (f : FuncId) (args : List V) (rows : List (List Lf × List X)) (o : Out) : Prop := Ev (fun _ k _ => Ak k false f args rows) o
theorem Ev.two {F G H : Nat → Nat → Nat → Option Out} {o o' : Out} (h : Ev F o) (h2 : Ev G o') (hh : ∀ m k n, F m k n = some o → H m k n = G m k n) : Ev H o' := by
  obtain ⟨K, hK⟩ := h
  obtain ⟨L, hL⟩ := h2
  exact ⟨K + L, fun m k n h1 h2 h3 => (hh m k n (hK m k n (by omega) (by omega) (by omega))).trans (hL m k n (by omega) (by omega) (by omega))⟩
theorem Ev.step {F : Nat → Nat → Nat → Option Out} {o : Out} (h : Ev (fun m k n => F (m + 1) k n) o) : Ev F o := by
  obtain ⟨K, hK⟩ := h
  refine ⟨K + 1, fun m k n h1 h2 h3 => ?_⟩
  obtain ⟨m, rfl⟩ : ∃ m', m = m' + 1 := ⟨m - 1, by omega⟩
  exact hK m k n (by omega) (by omega) (by omega)
theorem Ev.diag {F : Nat → Nat → Nat → Option Out} {o : Out} (h : Ev F o) : Ev (fun m k n => F n k n) o := by
  obtain ⟨K, hK⟩ := h
  exact ⟨K, fun m k n h1 h2 h3 => hK n k n h3 h2 h3⟩
theorem Ev.call {f : FuncId} {args : List V} {rows : List (List Lf × List X)} {E : (Bool → SemL) → Nat → Option Out} {o : Out} (he : ∀ k, Ak (k + 1) false f args rows = E (Ak k) k) (h : Ev (fun _ k n => E (Ak k) n) o) : Cal f args rows o := by
  obtain ⟨K, hK⟩ := h
  refine ⟨K + 1, fun m k n h1 h2 h3 => ?_⟩
  obtain ⟨k, rfl⟩ : ∃ k', k = k' + 1 := ⟨k - 1, by omega⟩
  exact (he k).trans (hK k k k (by omega) (by omega) (by omega))
theorem Ev.dcall {f : FuncId} {args : List V} {rows : List (List Lf × List X)} {E : (Bool → SemL) → Nat → Option Out} {o : Out} (he : ∀ k, Ak (k + 1) true f args rows = E (Ak k) k) (h : Ev (fun _ k n => E (Ak k) n) o) : Ev (fun _ k _ => Ak k true f args rows) o := by
  obtain ⟨K, hK⟩ := h
  refine ⟨K + 1, fun m k n h1 h2 h3 => ?_⟩
  obtain ⟨k, rfl⟩ : ∃ k', k = k' + 1 := ⟨k - 1, by omega⟩
  exact (he k).trans (hK k k k (by omega) (by omega) (by omega))
theorem Ev.ret (o : Out) : Ev (fun _ _ _ => some o) o := ⟨0, fun _ _ _ _ _ _ => rfl⟩
theorem Ev.of {F : Nat → Nat → Nat → Option Out} {o : Out} (h : ∀ m k n, F m k n = some o) : Ev F o := ⟨0, fun m k n _ _ _ => h m k n⟩
theorem Ev.eq {F G : Nat → Nat → Nat → Option Out} {o : Out} (h : Ev G o) (e : ∀ m k n, F m k n = G m k n) : Ev F o := by
  obtain ⟨K, hK⟩ := h
  exact ⟨K, fun m k n h1 h2 h3 => (e m k n).trans (hK m k n h1 h2 h3)⟩
theorem Ev.yes {c : Bool} {F G : Nat → Nat → Nat → Option Out} {o : Out} (hc : c = true) (h : Ev F o) : Ev (fun m k n => bif c then F m k n else G m k n) o := by subst hc; exact h
theorem Ev.no {c : Bool} {F G : Nat → Nat → Nat → Option Out} {o : Out} (hc : c = false) (h : Ev G o) : Ev (fun m k n => bif c then F m k n else G m k n) o := by subst hc; exact h
def r_oB (x : Option Out) (K : Bool → Option Out) (P : D → Option Out) : Option Out := retK false [] (Sh.one Lf.bool) x (fun v rows => K (D.bit (X.dd (X.cell v 0)))) (fun d rows => P d )
theorem g_oB (y0 : Bool) (K : Bool → Option Out) (P : D → Option Out) : r_oB (some (Out.mk true (V.one (X.d (D.bool y0))) D.junk [] 0)) K P = K y0 := rfl
theorem v_oB {x : Nat → Option Out} {K : Nat → Nat → Nat → Bool → Option Out} {P : Nat → Nat → Nat → D → Option Out} {o : Out} {y0 : Bool} (h : Ev (fun _ k _ => x k) (Out.mk true (V.one (X.d
  (D.bool y0))) D.junk [] 0)) (h2 : Ev (fun m k n => K m k n y0) o) : Ev (fun m k n => r_oB (x k) (K m k n) (P m k n)) o := Ev.two h h2 fun m k n e => (congrArg (fun z => r_oB z (K m k n) (P
  m k n)) e).trans (g_oB y0 _ _)
def r_oB_I (x : Option Out) (K : Bool → Int → Option Out) (P : D → Int → Option Out) : Option Out := retK false [[(Lf.int IntKind.i64)]] (Sh.one Lf.bool) x (fun v rows => K (D.bit (X.dd
  (X.cell v 0))) (D.num (X.dd (List.getD (List.getD rows 0 []) 0 (X.d D.junk))))) (fun d rows => P d (D.num (X.dd (List.getD (List.getD rows 0 []) 0 (X.d D.junk)))))
theorem g_oB_I (y0 : Bool) (y1 : Int) (K : Bool → Int → Option Out) (P : D → Int → Option Out) : r_oB_I (some (Out.mk true (V.one (X.d (D.bool y0))) D.junk [[X.d (D.int IntKind.i64 y1)]] 0))
  K P = K y0 y1 := rfl
theorem v_oB_I {x : Nat → Option Out} {K : Nat → Nat → Nat → Bool → Int → Option Out} {P : Nat → Nat → Nat → D → Int → Option Out} {o : Out} {y0 : Bool} {y1 : Int} (h : Ev (fun _ k _ => x k)
  (Out.mk true (V.one (X.d (D.bool y0))) D.junk [[X.d (D.int IntKind.i64 y1)]] 0)) (h2 : Ev (fun m k n => K m k n y0 y1) o) : Ev (fun m k n => r_oB_I (x k) (K m k n) (P m k n)) o := Ev.two h
  h2 fun m k n e => (congrArg (fun z => r_oB_I z (K m k n) (P m k n)) e).trans (g_oB_I y0 y1 _ _)
def r_oI (x : Option Out) (K : Int → Option Out) (P : D → Option Out) : Option Out := retK false [] (Sh.one (Lf.int IntKind.i64)) x (fun v rows => K (D.num (X.dd (X.cell v 0)))) (fun d rows
  => P d )
theorem g_oI (y0 : Int) (K : Int → Option Out) (P : D → Option Out) : r_oI (some (Out.mk true (V.one (X.d (D.int IntKind.i64 y0))) D.junk [] 0)) K P = K y0 := rfl
theorem v_oI {x : Nat → Option Out} {K : Nat → Nat → Nat → Int → Option Out} {P : Nat → Nat → Nat → D → Option Out} {o : Out} {y0 : Int} (h : Ev (fun _ k _ => x k) (Out.mk true (V.one (X.d
  (D.int IntKind.i64 y0))) D.junk [] 0)) (h2 : Ev (fun m k n => K m k n y0) o) : Ev (fun m k n => r_oI (x k) (K m k n) (P m k n)) o := Ev.two h h2 fun m k n e => (congrArg (fun z => r_oI z (K
  m k n) (P m k n)) e).trans (g_oI y0 _ _)
def r_oI_I (x : Option Out) (K : Int → Int → Option Out) (P : D → Int → Option Out) : Option Out := retK false [[(Lf.int IntKind.i64)]] (Sh.one (Lf.int IntKind.i64)) x (fun v rows => K (D.num
  (X.dd (X.cell v 0))) (D.num (X.dd (List.getD (List.getD rows 0 []) 0 (X.d D.junk))))) (fun d rows => P d (D.num (X.dd (List.getD (List.getD rows 0 []) 0 (X.d D.junk)))))
theorem g_oI_I (y0 : Int) (y1 : Int) (K : Int → Int → Option Out) (P : D → Int → Option Out) : r_oI_I (some (Out.mk true (V.one (X.d (D.int IntKind.i64 y0))) D.junk [[X.d (D.int IntKind.i64
  y1)]] 0)) K P = K y0 y1 := rfl
theorem v_oI_I {x : Nat → Option Out} {K : Nat → Nat → Nat → Int → Int → Option Out} {P : Nat → Nat → Nat → D → Int → Option Out} {o : Out} {y0 : Int} {y1 : Int} (h : Ev (fun _ k _ => x k)
  (Out.mk true (V.one (X.d (D.int IntKind.i64 y0))) D.junk [[X.d (D.int IntKind.i64 y1)]] 0)) (h2 : Ev (fun m k n => K m k n y0 y1) o) : Ev (fun m k n => r_oI_I (x k) (K m k n) (P m k n)) o
  := Ev.two h h2 fun m k n e => (congrArg (fun z => r_oI_I z (K m k n) (P m k n)) e).trans (g_oI_I y0 y1 _ _)
def r_oL1 (x : Option Out) (K : List (List D) → Option Out) (P : D → Option Out) : Option Out := retK false [] (Sh.one (Lf.lst 1)) x (fun v rows => K (D.rows (X.dd (X.cell v 0)))) (fun d rows
  => P d )
theorem g_oL1 (y0 : List (List D)) (K : List (List D) → Option Out) (P : D → Option Out) : r_oL1 (some (Out.mk true (V.one (X.d (D.list 1 y0))) D.junk [] 0)) K P = K y0 := rfl
theorem v_oL1 {x : Nat → Option Out} {K : Nat → Nat → Nat → List (List D) → Option Out} {P : Nat → Nat → Nat → D → Option Out} {o : Out} {y0 : List (List D)} (h : Ev (fun _ k _ => x k)
  (Out.mk true (V.one (X.d (D.list 1 y0))) D.junk [] 0)) (h2 : Ev (fun m k n => K m k n y0) o) : Ev (fun m k n => r_oL1 (x k) (K m k n) (P m k n)) o := Ev.two h h2 fun m k n e => (congrArg
  (fun z => r_oL1 z (K m k n) (P m k n)) e).trans (g_oL1 y0 _ _)
def r_oS (x : Option Out) (K : ByteArray → Option Out) (P : D → Option Out) : Option Out := retK false [] (Sh.one Lf.str) x (fun v rows => K (D.bytes (X.dd (X.cell v 0)))) (fun d rows => P d
  )
theorem g_oS (y0 : ByteArray) (K : ByteArray → Option Out) (P : D → Option Out) : r_oS (some (Out.mk true (V.one (X.d (D.str y0))) D.junk [] 0)) K P = K y0 := rfl
theorem v_oS {x : Nat → Option Out} {K : Nat → Nat → Nat → ByteArray → Option Out} {P : Nat → Nat → Nat → D → Option Out} {o : Out} {y0 : ByteArray} (h : Ev (fun _ k _ => x k) (Out.mk true
  (V.one (X.d (D.str y0))) D.junk [] 0)) (h2 : Ev (fun m k n => K m k n y0) o) : Ev (fun m k n => r_oS (x k) (K m k n) (P m k n)) o := Ev.two h h2 fun m k n e => (congrArg (fun z => r_oS z (K
  m k n) (P m k n)) e).trans (g_oS y0 _ _)
def r_t2a5ISIIIoI (x : Option Out) (K : Int → ByteArray → Int → Int → Int → Int → Option Out) (P : D → Option Out) : Option Out := retK false [] (Sh.tup [(Sh.agg [(Lf.int IntKind.i64),
  Lf.str, (Lf.int IntKind.i64), (Lf.int IntKind.i64), (Lf.int IntKind.i64)]), (Sh.one (Lf.int IntKind.i64))]) x (fun v rows => K (D.num (X.dd (X.cell (V.comp v 0) 0))) (D.bytes (X.dd (X.cell
  (V.comp v 0) 1))) (D.num (X.dd (X.cell (V.comp v 0) 2))) (D.num (X.dd (X.cell (V.comp v 0) 3))) (D.num (X.dd (X.cell (V.comp v 0) 4))) (D.num (X.dd (X.cell (V.comp v 1) 0)))) (fun d rows =>
  P d )
theorem g_t2a5ISIIIoI (y0 : Int) (y1 : ByteArray) (y2 : Int) (y3 : Int) (y4 : Int) (y5 : Int) (K : Int → ByteArray → Int → Int → Int → Int → Option Out) (P : D → Option Out) : r_t2a5ISIIIoI
  (some (Out.mk true (V.tup [V.agg [X.d (D.int IntKind.i64 y0), X.d (D.str y1), X.d (D.int IntKind.i64 y2), X.d (D.int IntKind.i64 y3), X.d (D.int IntKind.i64 y4)], V.one (X.d (D.int
  IntKind.i64 y5))]) D.junk [] 0)) K P = K y0 y1 y2 y3 y4 y5 := rfl
theorem v_t2a5ISIIIoI {x : Nat → Option Out} {K : Nat → Nat → Nat → Int → ByteArray → Int → Int → Int → Int → Option Out} {P : Nat → Nat → Nat → D → Option Out} {o : Out} {y0 : Int} {y1 :
  ByteArray} {y2 : Int} {y3 : Int} {y4 : Int} {y5 : Int} (h : Ev (fun _ k _ => x k) (Out.mk true (V.tup [V.agg [X.d (D.int IntKind.i64 y0), X.d (D.str y1), X.d (D.int IntKind.i64 y2), X.d
  (D.int IntKind.i64 y3), X.d (D.int IntKind.i64 y4)], V.one (X.d (D.int IntKind.i64 y5))]) D.junk [] 0)) (h2 : Ev (fun m k n => K m k n y0 y1 y2 y3 y4 y5) o) : Ev (fun m k n => r_t2a5ISIIIoI
  (x k) (K m k n) (P m k n)) o := Ev.two h h2 fun m k n e => (congrArg (fun z => r_t2a5ISIIIoI z (K m k n) (P m k n)) e).trans (g_t2a5ISIIIoI y0 y1 y2 y3 y4 y5 _ _)
def r_t2oL5a4ISII (x : Option Out) (K : List (List D) → Int → ByteArray → Int → Int → Option Out) (P : D → Option Out) : Option Out := retK false [] (Sh.tup [(Sh.one (Lf.lst 5)), (Sh.agg
  [(Lf.int IntKind.i64), Lf.str, (Lf.int IntKind.i64), (Lf.int IntKind.i64)])]) x (fun v rows => K (D.rows (X.dd (X.cell (V.comp v 0) 0))) (D.num (X.dd (X.cell (V.comp v 1) 0))) (D.bytes
  (X.dd (X.cell (V.comp v 1) 1))) (D.num (X.dd (X.cell (V.comp v 1) 2))) (D.num (X.dd (X.cell (V.comp v 1) 3)))) (fun d rows => P d )
theorem g_t2oL5a4ISII (y0 : List (List D)) (y1 : Int) (y2 : ByteArray) (y3 : Int) (y4 : Int) (K : List (List D) → Int → ByteArray → Int → Int → Option Out) (P : D → Option Out) :
  r_t2oL5a4ISII (some (Out.mk true (V.tup [V.one (X.d (D.list 5 y0)), V.agg [X.d (D.int IntKind.i64 y1), X.d (D.str y2), X.d (D.int IntKind.i64 y3), X.d (D.int IntKind.i64 y4)]]) D.junk []
  0)) K P = K y0 y1 y2 y3 y4 := rfl
theorem v_t2oL5a4ISII {x : Nat → Option Out} {K : Nat → Nat → Nat → List (List D) → Int → ByteArray → Int → Int → Option Out} {P : Nat → Nat → Nat → D → Option Out} {o : Out} {y0 : List (List
  D)} {y1 : Int} {y2 : ByteArray} {y3 : Int} {y4 : Int} (h : Ev (fun _ k _ => x k) (Out.mk true (V.tup [V.one (X.d (D.list 5 y0)), V.agg [X.d (D.int IntKind.i64 y1), X.d (D.str y2), X.d
  (D.int IntKind.i64 y3), X.d (D.int IntKind.i64 y4)]]) D.junk [] 0)) (h2 : Ev (fun m k n => K m k n y0 y1 y2 y3 y4) o) : Ev (fun m k n => r_t2oL5a4ISII (x k) (K m k n) (P m k n)) o := Ev.two
  h h2 fun m k n e => (congrArg (fun z => r_t2oL5a4ISII z (K m k n) (P m k n)) e).trans (g_t2oL5a4ISII y0 y1 y2 y3 y4 _ _)
end Go.Proofs.YtaphnbaiamnfpaaDoor.Ps
