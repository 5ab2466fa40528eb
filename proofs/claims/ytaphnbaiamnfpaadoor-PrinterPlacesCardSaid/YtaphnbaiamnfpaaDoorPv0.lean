/- What comes back from a call, taken apart. Printed by pack4.py. -/
import Derived.Test.YtaphnbaiamnfpaaDoorQw3
import Derived.Test.YtaphnbaiamnfpaaDoorPsV
namespace Go.Proofs.YtaphnbaiamnfpaaDoor.Ps
set_option maxHeartbeats 0
set_option maxRecDepth 100000
set_option linter.unusedVariables false
open Go Go.RowKit
open Go.IntKind renaming i64 → iK, u8 → uK
abbrev LL : Type := List (List D)
abbrev zi (n : Int) : X := X.d (D.int iK n)
abbrev zs (s : ByteArray) : X := X.d (D.str s)
abbrev zl (k : Nat) (r : LL) : X := X.d (D.list k r)
abbrev zb (b : Bool) : X := X.d (D.bool b)
abbrev zP : V := V.one (X.ptr 0 0)
abbrev zA : List Lf := [Lf.lst 5, Lf.int iK]
abbrev zB : List Lf := [Lf.lst 5, Lf.int iK, Lf.bool]
abbrev zE : List Lf := [Lf.int iK, Lf.int iK, Lf.str, Lf.lst 1, Lf.lst 1, Lf.lst 8, Lf.int iK, Lf.int iK]
abbrev zK : List Lf := [Lf.int iK, Lf.str, Lf.int iK, Lf.int iK, Lf.int iK]
abbrev zF : List Lf := [Lf.int iK, Lf.str, Lf.int iK, Lf.int iK]
abbrev oA (r : LL) (i : Int) : List (List X) := [[zl 5 r, zi i]]
abbrev oB (r : LL) (i : Int) (b : Bool) : List (List X) := [[zl 5 r, zi i, zb b]]
abbrev rA (r : LL) (i : Int) : List (List Lf × List X) := [(zA, [zl 5 r, zi i])]
abbrev rB (r : LL) (i : Int) (b : Bool) : List (List Lf × List X) := [(zB, [zl 5 r, zi i, zb b])]
abbrev kA (r : LL) (i : Int) : Blk := Blk.mk zA [zl 5 r, zi i]
abbrev kB (r : LL) (i : Int) (b : Bool) : Blk := Blk.mk zB [zl 5 r, zi i, zb b]
abbrev vE (k n : Int) (s : ByteArray) (a b c : LL) (x y : Int) : V := V.agg [zi k, zi n, zs s, zl 1 a, zl 1 b, zl 8 c, zi x, zi y]
abbrev vK (k : Int) (s : ByteArray) (n x y : Int) : V := V.agg [zi k, zs s, zi n, zi x, zi y]
abbrev vF (k : Int) (s : ByteArray) (x y : Int) : V := V.agg [zi k, zs s, zi x, zi y]
abbrev dE (k n : Int) (s : ByteArray) (a b c : LL) (x y : Int) : List D := [D.int iK k, D.int iK n, D.str s, D.list 1 a, D.list 1 b, D.list 8 c, D.int iK x, D.int iK y]
abbrev hA (d : D) (r : LL) (i : Int) : Option Out := some (Out.mk false V.junk d (oA r i) 0)
abbrev hB (d : D) (r : LL) (i : Int) (b : Bool) : Option Out := some (Out.mk false V.junk d (oB r i b) 0)
abbrev h0 (d : D) : Option Out := some (Out.mk false V.junk d [] 0)
theorem call_step {f : FuncId} {fn : SFunc} {args : List V} {rows : List (List Lf × List X)} {k : Nat} (h : progV f = some fn) (hn : Nat.beq args.length fn.nparams = true) :
    Ak (k + 1) false f args rows = runF (Ak k) shp rc false (shp f) fn k args rows := by
  have e : Ak (k + 1) false f args rows = (match progV f with
    | some fn => cond (Nat.beq args.length fn.nparams) (runF (Ak k) shp rc false (shp f) fn k args rows) none
    | none => cond false none (libV (Ak k false) f args rows)) := rfl
  rw [e, h]
  show cond _ _ _ = _
  rw [hn]
  rfl
theorem dcall_step {f : FuncId} {fn : SFunc} {args : List V} {rows : List (List Lf × List X)} {k : Nat} (h : progV f = some fn) (hn : Nat.beq args.length fn.nparams = true) :
    Ak (k + 1) true f args rows = runF (Ak k) shp rc true (shp f) fn k args rows := by
  have e : Ak (k + 1) true f args rows = (match progV f with
    | some fn => cond (Nat.beq args.length fn.nparams) (runF (Ak k) shp rc true (shp f) fn k args rows) none
    | none => cond true none (libV (Ak k false) f args rows)) := rfl
  rw [e, h]
  show cond _ _ _ = _
  rw [hn]
  rfl
/-- From some fuel on, whatever the fuels are. -/
def Ev (F : Nat → Nat → Nat → Option Out) (o : Out) : Prop := ∃ K, ∀ m k n, K ≤ m → K ≤ k → K ≤ n → F m k n = some o
abbrev Cal (f : FuncId) (args : List V) (rows : List (List Lf × List X)) (o : Out) : Prop := Ev (fun _ k _ => Ak k false f args rows) o
theorem Ev.two {F G H : Nat → Nat → Nat → Option Out} {o o' : Out} (h : Ev F o) (h2 : Ev G o') (hh : ∀ m k n, F m k n = some o → H m k n = G m k n) : Ev H o' := by
  obtain ⟨K, hK⟩ := h
  obtain ⟨L, hL⟩ := h2
  exact ⟨K + L, fun m k n h1 h2 h3 => (hh m k n (hK m k n (by omega) (by omega) (by omega))).trans (hL m k n (by omega) (by omega) (by omega))⟩
theorem Ev.step {F : Nat → Nat → Nat → Option Out} {o : Out} (h : Ev (fun m k n => F (m + 1) k n) o) : Ev F o := by
  obtain ⟨K, hK⟩ := h
  refine ⟨K + 1, fun m k n h1 h2 h3 => ?_⟩
  obtain ⟨m, rfl⟩ : ∃ m', m = m' + 1 := ⟨m - 1, by omega⟩
  exact hK m k n (by omega) (by omega) (by omega)
theorem Ev.diag {F : Nat → Nat → Nat → Option Out} {o : Out} (h : Ev F o) : Ev (fun m k n => F n k n) o := by
  obtain ⟨K, hK⟩ := h
  exact ⟨K, fun m k n h1 h2 h3 => hK n k n h3 h2 h3⟩
theorem Ev.call {f : FuncId} {args : List V} {rows : List (List Lf × List X)} {E : (Bool → SemL) → Nat → Option Out} {o : Out} (he : ∀ k, Ak (k + 1) false f args rows = E (Ak k) k) (h : Ev (fun _ k n => E (Ak k) n) o) : Cal f args rows o := by
  obtain ⟨K, hK⟩ := h
  refine ⟨K + 1, fun m k n h1 h2 h3 => ?_⟩
  obtain ⟨k, rfl⟩ : ∃ k', k = k' + 1 := ⟨k - 1, by omega⟩
  exact (he k).trans (hK k k k (by omega) (by omega) (by omega))
theorem Ev.dcall {f : FuncId} {args : List V} {rows : List (List Lf × List X)} {E : (Bool → SemL) → Nat → Option Out} {o : Out} (he : ∀ k, Ak (k + 1) true f args rows = E (Ak k) k) (h : Ev (fun _ k n => E (Ak k) n) o) : Ev (fun _ k _ => Ak k true f args rows) o := by
  obtain ⟨K, hK⟩ := h
  refine ⟨K + 1, fun m k n h1 h2 h3 => ?_⟩
  obtain ⟨k, rfl⟩ : ∃ k', k = k' + 1 := ⟨k - 1, by omega⟩
  exact (he k).trans (hK k k k (by omega) (by omega) (by omega))
theorem Ev.ret (o : Out) : Ev (fun _ _ _ => some o) o := ⟨0, fun _ _ _ _ _ _ => rfl⟩
theorem Ev.of {F : Nat → Nat → Nat → Option Out} {o : Out} (h : ∀ m k n, F m k n = some o) : Ev F o := ⟨0, fun m k n _ _ _ => h m k n⟩
theorem Ev.eq {F G : Nat → Nat → Nat → Option Out} {o : Out} (h : Ev G o) (e : ∀ m k n, F m k n = G m k n) : Ev F o := by
  obtain ⟨K, hK⟩ := h
  exact ⟨K, fun m k n h1 h2 h3 => (e m k n).trans (hK m k n h1 h2 h3)⟩
theorem Ev.yes {c : Bool} {F G : Nat → Nat → Nat → Option Out} {o : Out} (hc : c = true) (h : Ev F o) : Ev (fun m k n => bif c then F m k n else G m k n) o := by subst hc; exact h
theorem Ev.no {c : Bool} {F G : Nat → Nat → Nat → Option Out} {o : Out} (hc : c = false) (h : Ev G o) : Ev (fun m k n => bif c then F m k n else G m k n) o := by subst hc; exact h
def r_a8IISL1L1L8II (x : Option Out) (K : Int → Int → ByteArray → List (List D) → List (List D) → List (List D) → Int → Int → Option Out) (P : D → Option Out) : Option Out := retK false []
  (Sh.agg [(Lf.int IntKind.i64), (Lf.int IntKind.i64), Lf.str, (Lf.lst 1), (Lf.lst 1), (Lf.lst 8), (Lf.int IntKind.i64), (Lf.int IntKind.i64)]) x (fun v rows => K (D.num (X.dd (X.cell v 0)))
  (D.num (X.dd (X.cell v 1))) (D.bytes (X.dd (X.cell v 2))) (D.rows (X.dd (X.cell v 3))) (D.rows (X.dd (X.cell v 4))) (D.rows (X.dd (X.cell v 5))) (D.num (X.dd (X.cell v 6))) (D.num (X.dd
  (X.cell v 7)))) (fun d rows => P d )
theorem g_a8IISL1L1L8II (y0 y1 : Int) (y2 : ByteArray) (y3 y4 y5 : LL) (y6 y7 : Int) (K : Int → Int → ByteArray → LL → LL → LL → Int → Int → Option Out) (P : D → Option Out) : r_a8IISL1L1L8II (some (Out.mk true (vE y0 y1 y2 y3 y4 y5 y6 y7) D.junk [] 0)) K P = K y0 y1 y2 y3 y4 y5 y6 y7 := rfl
theorem v_a8IISL1L1L8II {x : Nat → Option Out} {K : Nat → Nat → Nat → Int → Int → ByteArray → LL → LL → LL → Int → Int → Option Out} {P : Nat → Nat → Nat → D → Option Out} {o : Out} {y0 : Int} {y1 : Int} {y2 : ByteArray} {y3 : LL} {y4 : LL} {y5 : LL} {y6 : Int} {y7 : Int} (h : Ev (fun _ k _ => x k) (Out.mk true (vE y0 y1 y2 y3 y4 y5 y6 y7) D.junk [] 0)) (h2 : Ev (fun m k n => K m k n y0 y1 y2 y3 y4 y5 y6 y7) o) : Ev (fun m k n => r_a8IISL1L1L8II (x k) (K m k n) (P m k n)) o := Ev.two h h2 fun m k n e => (congrArg (fun z => r_a8IISL1L1L8II z (K m k n) (P m k n)) e).trans (g_a8IISL1L1L8II y0 y1 y2 y3 y4 y5 y6 y7 _ _)
def r_n_FO5x1 (x : Option Out) (K : List (List D) → Option Out) (P : D → List (List D) → Option Out) : Option Out := retK false [[Lf.slf, (Lf.own 5 1)]] Sh.none x (fun v rows => K (X.orows
  (List.getD (List.getD rows 0 []) 1 (X.d D.junk)))) (fun d rows => P d (X.orows (List.getD (List.getD rows 0 []) 1 (X.d D.junk))))
theorem g_n_FO5x1 (vv : V) (y0 : LL) (K : LL → Option Out) (P : D → LL → Option Out) : r_n_FO5x1 (some (Out.mk true (vv) D.junk [[X.slf 0, X.own 0 5 1 y0]] 1)) K P = K y0 := rfl
theorem v_n_FO5x1 {x : Nat → Option Out} {K : Nat → Nat → Nat → LL → Option Out} {P : Nat → Nat → Nat → D → LL → Option Out} {o : Out} {vv : V} {y0 : LL} (h : Ev (fun _ k _ => x k) (Out.mk true (vv) D.junk [[X.slf 0, X.own 0 5 1 y0]] 1)) (h2 : Ev (fun m k n => K m k n y0) o) : Ev (fun m k n => r_n_FO5x1 (x k) (K m k n) (P m k n)) o := Ev.two h h2 fun m k n e => (congrArg (fun z => r_n_FO5x1 z (K m k n) (P m k n)) e).trans (g_n_FO5x1 vv y0 _ _)
def r_oB (x : Option Out) (K : Bool → Option Out) (P : D → Option Out) : Option Out := retK false [] (Sh.one Lf.bool) x (fun v rows => K (D.bit (X.dd (X.cell v 0)))) (fun d rows => P d )
theorem g_oB (y0 : Bool) (K : Bool → Option Out) (P : D → Option Out) : r_oB (some (Out.mk true (V.one (zb y0)) D.junk [] 0)) K P = K y0 := rfl
theorem v_oB {x : Nat → Option Out} {K : Nat → Nat → Nat → Bool → Option Out} {P : Nat → Nat → Nat → D → Option Out} {o : Out} {y0 : Bool} (h : Ev (fun _ k _ => x k) (Out.mk true (V.one (zb y0)) D.junk [] 0)) (h2 : Ev (fun m k n => K m k n y0) o) : Ev (fun m k n => r_oB (x k) (K m k n) (P m k n)) o := Ev.two h h2 fun m k n e => (congrArg (fun z => r_oB z (K m k n) (P m k n)) e).trans (g_oB y0 _ _)
def r_oI (x : Option Out) (K : Int → Option Out) (P : D → Option Out) : Option Out := retK false [] (Sh.one (Lf.int IntKind.i64)) x (fun v rows => K (D.num (X.dd (X.cell v 0)))) (fun d rows
  => P d )
theorem g_oI (y0 : Int) (K : Int → Option Out) (P : D → Option Out) : r_oI (some (Out.mk true (V.one (zi y0)) D.junk [] 0)) K P = K y0 := rfl
theorem v_oI {x : Nat → Option Out} {K : Nat → Nat → Nat → Int → Option Out} {P : Nat → Nat → Nat → D → Option Out} {o : Out} {y0 : Int} (h : Ev (fun _ k _ => x k) (Out.mk true (V.one (zi y0)) D.junk [] 0)) (h2 : Ev (fun m k n => K m k n y0) o) : Ev (fun m k n => r_oI (x k) (K m k n) (P m k n)) o := Ev.two h h2 fun m k n e => (congrArg (fun z => r_oI z (K m k n) (P m k n)) e).trans (g_oI y0 _ _)
def r_oI_FO5x1 (x : Option Out) (K : Int → List (List D) → Option Out) (P : D → List (List D) → Option Out) : Option Out := retK false [[Lf.slf, (Lf.own 5 1)]] (Sh.one (Lf.int IntKind.i64)) x
  (fun v rows => K (D.num (X.dd (X.cell v 0))) (X.orows (List.getD (List.getD rows 0 []) 1 (X.d D.junk)))) (fun d rows => P d (X.orows (List.getD (List.getD rows 0 []) 1 (X.d D.junk))))
theorem g_oI_FO5x1 (y0 : Int) (y1 : LL) (K : Int → LL → Option Out) (P : D → LL → Option Out) : r_oI_FO5x1 (some (Out.mk true (V.one (zi y0)) D.junk [[X.slf 0, X.own 0 5 1 y1]] 1)) K P = K y0 y1 := rfl
theorem v_oI_FO5x1 {x : Nat → Option Out} {K : Nat → Nat → Nat → Int → LL → Option Out} {P : Nat → Nat → Nat → D → LL → Option Out} {o : Out} {y0 : Int} {y1 : LL} (h : Ev (fun _ k _ => x k) (Out.mk true (V.one (zi y0)) D.junk [[X.slf 0, X.own 0 5 1 y1]] 1)) (h2 : Ev (fun m k n => K m k n y0 y1) o) : Ev (fun m k n => r_oI_FO5x1 (x k) (K m k n) (P m k n)) o := Ev.two h h2 fun m k n e => (congrArg (fun z => r_oI_FO5x1 z (K m k n) (P m k n)) e).trans (g_oI_FO5x1 y0 y1 _ _)
def r_oS (x : Option Out) (K : ByteArray → Option Out) (P : D → Option Out) : Option Out := retK false [] (Sh.one Lf.str) x (fun v rows => K (D.bytes (X.dd (X.cell v 0)))) (fun d rows => P d
  )
theorem g_oS (y0 : ByteArray) (K : ByteArray → Option Out) (P : D → Option Out) : r_oS (some (Out.mk true (V.one (zs y0)) D.junk [] 0)) K P = K y0 := rfl
theorem v_oS {x : Nat → Option Out} {K : Nat → Nat → Nat → ByteArray → Option Out} {P : Nat → Nat → Nat → D → Option Out} {o : Out} {y0 : ByteArray} (h : Ev (fun _ k _ => x k) (Out.mk true (V.one (zs y0)) D.junk [] 0)) (h2 : Ev (fun m k n => K m k n y0) o) : Ev (fun m k n => r_oS (x k) (K m k n) (P m k n)) o := Ev.two h h2 fun m k n e => (congrArg (fun z => r_oS z (K m k n) (P m k n)) e).trans (g_oS y0 _ _)
def r_oS_FJ5x1 (x : Option Out) (K : ByteArray → Option Out) (P : D → Option Out) : Option Out := retK true [[Lf.slf, (Lf.own 5 1)]] (Sh.one Lf.str) x (fun v rows => K (D.bytes (X.dd (X.cell
  v 0)))) (fun d rows => P d )
theorem g_oS_FJ5x1 (y0 : ByteArray) (zJ : X) (K : ByteArray → Option Out) (P : D → Option Out) : r_oS_FJ5x1 (some (Out.mk true (V.one (zs y0)) D.junk [[X.slf 0, zJ]] 0)) K P = K y0 := rfl
theorem v_oS_FJ5x1 {x : Nat → Option Out} {K : Nat → Nat → Nat → ByteArray → Option Out} {P : Nat → Nat → Nat → D → Option Out} {o : Out} {y0 : ByteArray} {zJ : X} (h : Ev (fun _ k _ => x k) (Out.mk true (V.one (zs y0)) D.junk [[X.slf 0, zJ]] 0)) (h2 : Ev (fun m k n => K m k n y0) o) : Ev (fun m k n => r_oS_FJ5x1 (x k) (K m k n) (P m k n)) o := Ev.two h h2 fun m k n e => (congrArg (fun z => r_oS_FJ5x1 z (K m k n) (P m k n)) e).trans (g_oS_FJ5x1 y0 zJ _ _)
def r_t2a5ISIIIoI (x : Option Out) (K : Int → ByteArray → Int → Int → Int → Int → Option Out) (P : D → Option Out) : Option Out := retK false [] (Sh.tup [(Sh.agg [(Lf.int IntKind.i64),
  Lf.str, (Lf.int IntKind.i64), (Lf.int IntKind.i64), (Lf.int IntKind.i64)]), (Sh.one (Lf.int IntKind.i64))]) x (fun v rows => K (D.num (X.dd (X.cell (V.comp v 0) 0))) (D.bytes (X.dd (X.cell
  (V.comp v 0) 1))) (D.num (X.dd (X.cell (V.comp v 0) 2))) (D.num (X.dd (X.cell (V.comp v 0) 3))) (D.num (X.dd (X.cell (V.comp v 0) 4))) (D.num (X.dd (X.cell (V.comp v 1) 0)))) (fun d rows =>
  P d )
theorem g_t2a5ISIIIoI (y0 : Int) (y1 : ByteArray) (y2 y3 y4 y5 : Int) (K : Int → ByteArray → Int → Int → Int → Int → Option Out) (P : D → Option Out) : r_t2a5ISIIIoI (some (Out.mk true (V.tup [vK y0 y1 y2 y3 y4, V.one (zi y5)]) D.junk [] 0)) K P = K y0 y1 y2 y3 y4 y5 := rfl
theorem v_t2a5ISIIIoI {x : Nat → Option Out} {K : Nat → Nat → Nat → Int → ByteArray → Int → Int → Int → Int → Option Out} {P : Nat → Nat → Nat → D → Option Out} {o : Out} {y0 : Int} {y1 : ByteArray} {y2 : Int} {y3 : Int} {y4 : Int} {y5 : Int} (h : Ev (fun _ k _ => x k) (Out.mk true (V.tup [vK y0 y1 y2 y3 y4, V.one (zi y5)]) D.junk [] 0)) (h2 : Ev (fun m k n => K m k n y0 y1 y2 y3 y4 y5) o) : Ev (fun m k n => r_t2a5ISIIIoI (x k) (K m k n) (P m k n)) o := Ev.two h h2 fun m k n e => (congrArg (fun z => r_t2a5ISIIIoI z (K m k n) (P m k n)) e).trans (g_t2a5ISIIIoI y0 y1 y2 y3 y4 y5 _ _)
def r_t2oIoD_FO5x1 (x : Option Out) (K : Int → D → List (List D) → Option Out) (P : D → List (List D) → Option Out) : Option Out := retK false [[Lf.slf, (Lf.own 5 1)]] (Sh.tup [(Sh.one
  (Lf.int IntKind.i64)), (Sh.one Lf.any)]) x (fun v rows => K (D.num (X.dd (X.cell (V.comp v 0) 0))) (X.dd (X.cell (V.comp v 1) 0)) (X.orows (List.getD (List.getD rows 0 []) 1 (X.d D.junk))))
  (fun d rows => P d (X.orows (List.getD (List.getD rows 0 []) 1 (X.d D.junk))))
theorem g_t2oIoD_FO5x1 (y0 : Int) (y1 : D) (y2 : LL) (K : Int → D → LL → Option Out) (P : D → LL → Option Out) : r_t2oIoD_FO5x1 (some (Out.mk true (V.tup [V.one (zi y0), V.one (X.d y1)]) D.junk [[X.slf 0, X.own 0 5 1 y2]] 1)) K P = K y0 y1 y2 := rfl
theorem v_t2oIoD_FO5x1 {x : Nat → Option Out} {K : Nat → Nat → Nat → Int → D → LL → Option Out} {P : Nat → Nat → Nat → D → LL → Option Out} {o : Out} {y0 : Int} {y1 : D} {y2 : LL} (h : Ev (fun _ k _ => x k) (Out.mk true (V.tup [V.one (zi y0), V.one (X.d y1)]) D.junk [[X.slf 0, X.own 0 5 1 y2]] 1)) (h2 : Ev (fun m k n => K m k n y0 y1 y2) o) : Ev (fun m k n => r_t2oIoD_FO5x1 (x k) (K m k n) (P m k n)) o := Ev.two h h2 fun m k n e => (congrArg (fun z => r_t2oIoD_FO5x1 z (K m k n) (P m k n)) e).trans (g_t2oIoD_FO5x1 y0 y1 y2 _ _)
def r_t2oL5a4ISII (x : Option Out) (K : List (List D) → Int → ByteArray → Int → Int → Option Out) (P : D → Option Out) : Option Out := retK false [] (Sh.tup [(Sh.one (Lf.lst 5)), (Sh.agg
  [(Lf.int IntKind.i64), Lf.str, (Lf.int IntKind.i64), (Lf.int IntKind.i64)])]) x (fun v rows => K (D.rows (X.dd (X.cell (V.comp v 0) 0))) (D.num (X.dd (X.cell (V.comp v 1) 0))) (D.bytes
  (X.dd (X.cell (V.comp v 1) 1))) (D.num (X.dd (X.cell (V.comp v 1) 2))) (D.num (X.dd (X.cell (V.comp v 1) 3)))) (fun d rows => P d )
theorem g_t2oL5a4ISII (y0 : LL) (y1 : Int) (y2 : ByteArray) (y3 y4 : Int) (K : LL → Int → ByteArray → Int → Int → Option Out) (P : D → Option Out) : r_t2oL5a4ISII (some (Out.mk true (V.tup [V.one (zl 5 y0), vF y1 y2 y3 y4]) D.junk [] 0)) K P = K y0 y1 y2 y3 y4 := rfl
theorem v_t2oL5a4ISII {x : Nat → Option Out} {K : Nat → Nat → Nat → LL → Int → ByteArray → Int → Int → Option Out} {P : Nat → Nat → Nat → D → Option Out} {o : Out} {y0 : LL} {y1 : Int} {y2 : ByteArray} {y3 : Int} {y4 : Int} (h : Ev (fun _ k _ => x k) (Out.mk true (V.tup [V.one (zl 5 y0), vF y1 y2 y3 y4]) D.junk [] 0)) (h2 : Ev (fun m k n => K m k n y0 y1 y2 y3 y4) o) : Ev (fun m k n => r_t2oL5a4ISII (x k) (K m k n) (P m k n)) o := Ev.two h h2 fun m k n e => (congrArg (fun z => r_t2oL5a4ISII z (K m k n) (P m k n)) e).trans (g_t2oL5a4ISII y0 y1 y2 y3 y4 _ _)
def r_t2oSoI (x : Option Out) (K : ByteArray → Int → Option Out) (P : D → Option Out) : Option Out := retK false [] (Sh.tup [(Sh.one Lf.str), (Sh.one (Lf.int IntKind.i64))]) x (fun v rows =>
  K (D.bytes (X.dd (X.cell (V.comp v 0) 0))) (D.num (X.dd (X.cell (V.comp v 1) 0)))) (fun d rows => P d )
theorem g_t2oSoI (y0 : ByteArray) (y1 : Int) (K : ByteArray → Int → Option Out) (P : D → Option Out) : r_t2oSoI (some (Out.mk true (V.tup [V.one (zs y0), V.one (zi y1)]) D.junk [] 0)) K P = K y0 y1 := rfl
theorem v_t2oSoI {x : Nat → Option Out} {K : Nat → Nat → Nat → ByteArray → Int → Option Out} {P : Nat → Nat → Nat → D → Option Out} {o : Out} {y0 : ByteArray} {y1 : Int} (h : Ev (fun _ k _ => x k) (Out.mk true (V.tup [V.one (zs y0), V.one (zi y1)]) D.junk [] 0)) (h2 : Ev (fun m k n => K m k n y0 y1) o) : Ev (fun m k n => r_t2oSoI (x k) (K m k n) (P m k n)) o := Ev.two h h2 fun m k n e => (congrArg (fun z => r_t2oSoI z (K m k n) (P m k n)) e).trans (g_t2oSoI y0 y1 _ _)
def r_t2oSoI_FJ5x1 (x : Option Out) (K : ByteArray → Int → Option Out) (P : D → Option Out) : Option Out := retK true [[Lf.slf, (Lf.own 5 1)]] (Sh.tup [(Sh.one Lf.str), (Sh.one (Lf.int
  IntKind.i64))]) x (fun v rows => K (D.bytes (X.dd (X.cell (V.comp v 0) 0))) (D.num (X.dd (X.cell (V.comp v 1) 0)))) (fun d rows => P d )
theorem g_t2oSoI_FJ5x1 (y0 : ByteArray) (y1 : Int) (zJ : X) (K : ByteArray → Int → Option Out) (P : D → Option Out) : r_t2oSoI_FJ5x1 (some (Out.mk true (V.tup [V.one (zs y0), V.one (zi y1)]) D.junk [[X.slf 0, zJ]] 0)) K P = K y0 y1 := rfl
theorem v_t2oSoI_FJ5x1 {x : Nat → Option Out} {K : Nat → Nat → Nat → ByteArray → Int → Option Out} {P : Nat → Nat → Nat → D → Option Out} {o : Out} {y0 : ByteArray} {y1 : Int} {zJ : X} (h : Ev (fun _ k _ => x k) (Out.mk true (V.tup [V.one (zs y0), V.one (zi y1)]) D.junk [[X.slf 0, zJ]] 0)) (h2 : Ev (fun m k n => K m k n y0 y1) o) : Ev (fun m k n => r_t2oSoI_FJ5x1 (x k) (K m k n) (P m k n)) o := Ev.two h h2 fun m k n e => (congrArg (fun z => r_t2oSoI_FJ5x1 z (K m k n) (P m k n)) e).trans (g_t2oSoI_FJ5x1 y0 y1 zJ _ _)
theorem h_t2oSoI_FJ5x1 (y0 : ByteArray) (y1 : Int) (zJ : X) (K : ByteArray → Int → Option Out) (P : D → Option Out) : r_t2oSoI_FJ5x1 (some (Out.mk true (V.tup [V.one (X.d (D.str y0)), V.one
  (X.d (D.int IntKind.i64 y1))]) D.junk [[X.slf 0, zJ]] 1)) K P = K y0 y1 := rfl
theorem w_t2oSoI_FJ5x1 {x : Nat → Option Out} {K : Nat → Nat → Nat → ByteArray → Int → Option Out} {P : Nat → Nat → Nat → D → Option Out} {o : Out} {y0 : ByteArray} {y1 : Int} {zJ : X} (h :
  Ev (fun _ k _ => x k) (Out.mk true (V.tup [V.one (X.d (D.str y0)), V.one (X.d (D.int IntKind.i64 y1))]) D.junk [[X.slf 0, zJ]] 1)) (h2 : Ev (fun m k n => K m k n y0 y1) o) : Ev (fun m k n
  => r_t2oSoI_FJ5x1 (x k) (K m k n) (P m k n)) o := Ev.two h h2 fun m k n e => (congrArg (fun z => r_t2oSoI_FJ5x1 z (K m k n) (P m k n)) e).trans (h_t2oSoI_FJ5x1 y0 y1 zJ _ _)
end Go.Proofs.YtaphnbaiamnfpaaDoor.Ps
