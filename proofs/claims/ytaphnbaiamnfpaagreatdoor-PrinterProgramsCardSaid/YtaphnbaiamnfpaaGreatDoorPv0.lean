/- What comes back from a call, taken apart. Printed by pack4.py. -/
import Derived.Test.YtaphnbaiamnfpaaGreatDoorQw3
import Derived.Test.YtaphnbaiamnfpaaGreatDoorPsV
namespace Go.Proofs.YtaphnbaiamnfpaaGreatDoor.Ps
set_option maxHeartbeats 0
set_option maxRecDepth 100000
set_option linter.unusedVariables false
open Go Go.RowKit
open Go.IntKind renaming i64 → iK, u8 → uK
abbrev LL : Type := List (List D)
abbrev zi (n : Int) : X := X.d (D.int iK n)
abbrev zs (s : ByteArray) : X := X.d (D.str s)
abbrev zl (k : Nat) (r : LL) : X := X.d (D.list k r)
abbrev zb (b : Bool) : X := X.d (D.bool b)
abbrev zP : V := V.one (X.ptr 0 0)
abbrev zA : List Lf := [Lf.lst 5, Lf.int iK]
abbrev zB : List Lf := [Lf.lst 5, Lf.int iK, Lf.bool]
abbrev zE : List Lf := [Lf.int iK, Lf.int iK, Lf.str, Lf.lst 1, Lf.lst 1, Lf.lst 8, Lf.int iK, Lf.int iK]
abbrev zK : List Lf := [Lf.int iK, Lf.str, Lf.int iK, Lf.int iK, Lf.int iK]
abbrev zF : List Lf := [Lf.int iK, Lf.str, Lf.int iK, Lf.int iK]
abbrev oA (r : LL) (i : Int) : List (List X) := [[zl 5 r, zi i]]
abbrev oB (r : LL) (i : Int) (b : Bool) : List (List X) := [[zl 5 r, zi i, zb b]]
abbrev rA (r : LL) (i : Int) : List (List Lf × List X) := [(zA, [zl 5 r, zi i])]
abbrev rB (r : LL) (i : Int) (b : Bool) : List (List Lf × List X) := [(zB, [zl 5 r, zi i, zb b])]
abbrev kA (r : LL) (i : Int) : Blk := Blk.mk zA [zl 5 r, zi i]
abbrev kB (r : LL) (i : Int) (b : Bool) : Blk := Blk.mk zB [zl 5 r, zi i, zb b]
abbrev vE (k n : Int) (s : ByteArray) (a b c : LL) (x y : Int) : V := V.agg [zi k, zi n, zs s, zl 1 a, zl 1 b, zl 8 c, zi x, zi y]
abbrev vK (k : Int) (s : ByteArray) (n x y : Int) : V := V.agg [zi k, zs s, zi n, zi x, zi y]
abbrev vF (k : Int) (s : ByteArray) (x y : Int) : V := V.agg [zi k, zs s, zi x, zi y]
abbrev dE (k n : Int) (s : ByteArray) (a b c : LL) (x y : Int) : List D := [D.int iK k, D.int iK n, D.str s, D.list 1 a, D.list 1 b, D.list 8 c, D.int iK x, D.int iK y]
abbrev hA (d : D) (r : LL) (i : Int) : Option Out := some (Out.mk false V.junk d (oA r i) 0)
abbrev hB (d : D) (r : LL) (i : Int) (b : Bool) : Option Out := some (Out.mk false V.junk d (oB r i b) 0)
abbrev h0 (d : D) : Option Out := some (Out.mk false V.junk d [] 0)
abbrev zcN (v : V) (i : Nat) : Int := D.num (X.dd (X.cell v i))
abbrev zcR (v : V) (i : Nat) : LL := D.rows (X.dd (X.cell v i))
abbrev zcS (v : V) (i : Nat) : ByteArray := D.bytes (X.dd (X.cell v i))
abbrev zcB (v : V) (i : Nat) : Bool := D.bit (X.dd (X.cell v i))
abbrev zeX (r : List (List X)) (i j : Nat) : D := X.dd (List.getD (List.getD r i []) j (X.d D.junk))
abbrev zeN (r : List (List X)) (i j : Nat) : Int := D.num (zeX r i j)
abbrev zeR (r : List (List X)) (i j : Nat) : LL := D.rows (zeX r i j)
abbrev zeS (r : List (List X)) (i j : Nat) : ByteArray := D.bytes (zeX r i j)
abbrev zeB (r : List (List X)) (i j : Nat) : Bool := D.bit (zeX r i j)
abbrev SM : Type := Bool → SemL
abbrev SC : Type := SExit → St → Option Out
@[reducible] def fK (Γ : SM) (k : Nat) (s : SFunc) (p : Nat) : SC := finK (Γ true) rc false (shp k) (SFunc.results s) p
@[reducible] noncomputable def jF (Γ : SM) (n : Nat) (c : SCode) (s : St) (K : SC) : Option Out := Jn (Γ false) shp n c s K
@[reducible] noncomputable def jN (Γ : SM) (n : Nat) (c : SCode) (v : List (Nat × V)) (b : List (Nat × Blk)) (l : List Nat) (x y z : Nat) (K : SC) : Option Out := Jn (Γ false) shp n c (St.mk v b l x y z []) K
@[reducible] def kL (Γ : SM) (n : Nat) (l : List Nat) (c : SCode) (K : SC) : SC := kLoop (loopK (Γ false) shp n) l c K
@[reducible] def lK (Γ : SM) (n : Nat) (m : List Nat) (c : SCode) (v : List (Nat × V)) (b : List (Nat × Blk)) (l : List Nat) (x y z : Nat) (K : SC) : Option Out := loopK (Γ false) shp n m c (St.mk v b l x y z []) K
@[reducible] def rF (Γ : SM) (k : Nat) (s : SFunc) (n : Nat) (a : List V) (r : List (List Lf × List X)) : Option Out := runF Γ shp rc false (shp k) s n a r
abbrev oR (v : V) : Option Out := some (Out.mk true v D.junk [] 0)
abbrev oS (v : V) (r : List (List X)) : Option Out := some (Out.mk true v D.junk r 0)
abbrev zO (v : V) : Out := Out.mk true v D.junk [] 0
abbrev wg0 (a0 : Int) (a1 : LL) : V := V.agg [zi a0, zl 2 a1]
abbrev wg1 (a0 : LL) (a1 : LL) (a2 : Int) (a3 : Int) (a4 : ByteArray) (a5 : LL) (a6 : LL) (a7 : LL) (a8 : Int) (a9 : Int) : V := V.agg [zl 5 a0, zl 14 a1, zi a2, zi a3, zs a4, zl 1 a5, zl 1 a6, zl 8 a7, zi a8, zi a9]
abbrev wm2 (a0 : Int) (a1 : LL) : Blk := Blk.mk [Lf.int iK, Lf.lst 2] [zi a0, zl 2 a1]
abbrev wm3 (a0 : LL) (a1 : LL) (a2 : Int) (a3 : Int) (a4 : ByteArray) (a5 : LL) (a6 : LL) (a7 : LL) (a8 : Int) (a9 : Int) : Blk := Blk.mk [Lf.lst 5, Lf.lst 14, Lf.int iK, Lf.int iK, Lf.str, Lf.lst 1, Lf.lst 1, Lf.lst 8, Lf.int iK, Lf.int iK] [zl 5 a0, zl 14 a1, zi a2, zi a3, zs a4, zl 1 a5, zl 1 a6, zl 8 a7, zi a8, zi a9]
abbrev wm4 (a0 : Int) (a1 : Int) (a2 : ByteArray) (a3 : LL) (a4 : LL) (a5 : LL) (a6 : Int) (a7 : Int) : Blk := Blk.mk zE [zi a0, zi a1, zs a2, zl 1 a3, zl 1 a4, zl 8 a5, zi a6, zi a7]
abbrev wm5 (a0 : Int) (a1 : ByteArray) (a2 : Int) (a3 : Int) : Blk := Blk.mk zF [zi a0, zs a1, zi a2, zi a3]
abbrev wm6 (a0 : Int) (a1 : ByteArray) (a2 : Int) (a3 : Int) (a4 : Int) : Blk := Blk.mk zK [zi a0, zs a1, zi a2, zi a3, zi a4]
theorem call_step {f : FuncId} {fn : SFunc} {args : List V} {rows : List (List Lf × List X)} {k : Nat} (h : progV f = some fn) (hn : Nat.beq args.length fn.nparams = true) :
    Ak (k + 1) false f args rows = runF (Ak k) shp rc false (shp f) fn k args rows := by
  have e : Ak (k + 1) false f args rows = (match progV f with
    | some fn => cond (Nat.beq args.length fn.nparams) (runF (Ak k) shp rc false (shp f) fn k args rows) none
    | none => cond false none (libV (Ak k false) f args rows)) := rfl
  rw [e, h]
  show cond _ _ _ = _
  rw [hn]
  rfl
theorem dcall_step {f : FuncId} {fn : SFunc} {args : List V} {rows : List (List Lf × List X)} {k : Nat} (h : progV f = some fn) (hn : Nat.beq args.length fn.nparams = true) :
    Ak (k + 1) true f args rows = runF (Ak k) shp rc true (shp f) fn k args rows := by
  have e : Ak (k + 1) true f args rows = (match progV f with
    | some fn => cond (Nat.beq args.length fn.nparams) (runF (Ak k) shp rc true (shp f) fn k args rows) none
    | none => cond true none (libV (Ak k false) f args rows)) := rfl
  rw [e, h]
  show cond _ _ _ = _
  rw [hn]
  rfl
/-- From some fuel on, whatever the fuels are. -/
def Ev (F : Nat → Nat → Nat → Option Out) (o : Out) : Prop := ∃ K, ∀ m k n, K ≤ m → K ≤ k → K ≤ n → F m k n = some o
abbrev Cal (f : FuncId) (args : List V) (rows : List (List Lf × List X)) (o : Out) : Prop := Ev (fun _ k _ => Ak k false f args rows) o
theorem Ev.two {F G H : Nat → Nat → Nat → Option Out} {o o' : Out} (h : Ev F o) (h2 : Ev G o') (hh : ∀ m k n, F m k n = some o → H m k n = G m k n) : Ev H o' := by
  obtain ⟨K, hK⟩ := h
  obtain ⟨L, hL⟩ := h2
  exact ⟨K + L, fun m k n h1 h2 h3 => (hh m k n (hK m k n (by omega) (by omega) (by omega))).trans (hL m k n (by omega) (by omega) (by omega))⟩
theorem Ev.step {F : Nat → Nat → Nat → Option Out} {o : Out} (h : Ev (fun m k n => F (m + 1) k n) o) : Ev F o := by
  obtain ⟨K, hK⟩ := h
  refine ⟨K + 1, fun m k n h1 h2 h3 => ?_⟩
  obtain ⟨m, rfl⟩ : ∃ m', m = m' + 1 := ⟨m - 1, by omega⟩
  exact hK m k n (by omega) (by omega) (by omega)
theorem Ev.diag {F : Nat → Nat → Nat → Option Out} {o : Out} (h : Ev F o) : Ev (fun m k n => F n k n) o := by
  obtain ⟨K, hK⟩ := h
  exact ⟨K, fun m k n h1 h2 h3 => hK n k n h3 h2 h3⟩
theorem Ev.call {f : FuncId} {args : List V} {rows : List (List Lf × List X)} {E : (Bool → SemL) → Nat → Option Out} {o : Out} (he : ∀ k, Ak (k + 1) false f args rows = E (Ak k) k) (h : Ev (fun _ k n => E (Ak k) n) o) : Cal f args rows o := by
  obtain ⟨K, hK⟩ := h
  refine ⟨K + 1, fun m k n h1 h2 h3 => ?_⟩
  obtain ⟨k, rfl⟩ : ∃ k', k = k' + 1 := ⟨k - 1, by omega⟩
  exact (he k).trans (hK k k k (by omega) (by omega) (by omega))
theorem Ev.dcall {f : FuncId} {args : List V} {rows : List (List Lf × List X)} {E : (Bool → SemL) → Nat → Option Out} {o : Out} (he : ∀ k, Ak (k + 1) true f args rows = E (Ak k) k) (h : Ev (fun _ k n => E (Ak k) n) o) : Ev (fun _ k _ => Ak k true f args rows) o := by
  obtain ⟨K, hK⟩ := h
  refine ⟨K + 1, fun m k n h1 h2 h3 => ?_⟩
  obtain ⟨k, rfl⟩ : ∃ k', k = k' + 1 := ⟨k - 1, by omega⟩
  exact (he k).trans (hK k k k (by omega) (by omega) (by omega))
theorem Ev.ret (o : Out) : Ev (fun _ _ _ => some o) o := ⟨0, fun _ _ _ _ _ _ => rfl⟩
theorem Ev.of {F : Nat → Nat → Nat → Option Out} {o : Out} (h : ∀ m k n, F m k n = some o) : Ev F o := ⟨0, fun m k n _ _ _ => h m k n⟩
theorem Ev.eq {F G : Nat → Nat → Nat → Option Out} {o : Out} (h : Ev G o) (e : ∀ m k n, F m k n = G m k n) : Ev F o := by
  obtain ⟨K, hK⟩ := h
  exact ⟨K, fun m k n h1 h2 h3 => (e m k n).trans (hK m k n h1 h2 h3)⟩
theorem Ev.yes {c : Bool} {F G : Nat → Nat → Nat → Option Out} {o : Out} (hc : c = true) (h : Ev F o) : Ev (fun m k n => bif c then F m k n else G m k n) o := by subst hc; exact h
theorem Ev.no {c : Bool} {F G : Nat → Nat → Nat → Option Out} {o : Out} (hc : c = false) (h : Ev G o) : Ev (fun m k n => bif c then F m k n else G m k n) o := by subst hc; exact h
section
variable {x : Nat → Option Out} {o : Out} {d : D}
abbrev tn_FO5x1 := LL → Option Out
abbrev pn_FO5x1 := D → LL → Option Out
def r_n_FO5x1 (x : Option Out) (K : tn_FO5x1) (P : pn_FO5x1) := retK false [[Lf.slf, (Lf.own 5 1)]] Sh.none x (fun v w => K (X.orows (List.getD (List.getD w 0 []) 1 (X.d D.junk)))) (fun d w => P d (X.orows (List.getD (List.getD w 0 []) 1 (X.d D.junk))))
theorem v_n_FO5x1 {K : Nat → Nat → Nat → tn_FO5x1} {P : Nat → Nat → Nat → pn_FO5x1} {y0 vv} (h : Ev (fun _ k _ => x k) (Out.mk true (vv) D.junk [[X.slf 0, X.own 0 5 1 y0]] 1)) (h2 : Ev (fun m k n => K m k n y0) o) : Ev (fun m k n => r_n_FO5x1 (x k) (K m k n) (P m k n)) o := Ev.two h h2 fun _ _ _ e => congrArg (r_n_FO5x1 · _ _) e
abbrev toB := Bool → Option Out
abbrev poB := D → Option Out
def r_oB (x : Option Out) (K : toB) (P : poB) := retK false [] (Sh.one Lf.bool) x (fun v w => K (zcB v 0)) (fun d w => P d )
theorem v_oB {K : Nat → Nat → Nat → toB} {P : Nat → Nat → Nat → poB} {y0} (h : Ev (fun _ k _ => x k) (zO (V.one (zb y0)))) (h2 : Ev (fun m k n => K m k n y0) o) : Ev (fun m k n => r_oB (x k) (K m k n) (P m k n)) o := Ev.two h h2 fun _ _ _ e => congrArg (r_oB · _ _) e
abbrev toB_I := Bool → Int → Option Out
abbrev poB_I := D → Int → Option Out
def r_oB_I (x : Option Out) (K : toB_I) (P : poB_I) := retK false [[Lf.int iK]] (Sh.one Lf.bool) x (fun v w => K (zcB v 0) (zeN w 0 0)) (fun d w => P d (zeN w 0 0))
theorem v_oB_I {K : Nat → Nat → Nat → toB_I} {P : Nat → Nat → Nat → poB_I} {y0 y1} (h : Ev (fun _ k _ => x k) (Out.mk true (V.one (zb y0)) D.junk [[zi y1]] 0)) (h2 : Ev (fun m k n => K m k n y0 y1) o) : Ev (fun m k n => r_oB_I (x k) (K m k n) (P m k n)) o := Ev.two h h2 fun _ _ _ e => congrArg (r_oB_I · _ _) e
abbrev toI := Int → Option Out
abbrev poI := D → Option Out
def r_oI (x : Option Out) (K : toI) (P : poI) := retK false [] (Sh.one (Lf.int iK)) x (fun v w => K (zcN v 0)) (fun d w => P d )
theorem v_oI {K : Nat → Nat → Nat → toI} {P : Nat → Nat → Nat → poI} {y0} (h : Ev (fun _ k _ => x k) (zO (V.one (zi y0)))) (h2 : Ev (fun m k n => K m k n y0) o) : Ev (fun m k n => r_oI (x k) (K m k n) (P m k n)) o := Ev.two h h2 fun _ _ _ e => congrArg (r_oI · _ _) e
abbrev toI_FO5x1 := Int → LL → Option Out
abbrev poI_FO5x1 := D → LL → Option Out
def r_oI_FO5x1 (x : Option Out) (K : toI_FO5x1) (P : poI_FO5x1) := retK false [[Lf.slf, (Lf.own 5 1)]] (Sh.one (Lf.int iK)) x (fun v w => K (zcN v 0) (X.orows (List.getD (List.getD w 0 []) 1 (X.d D.junk)))) (fun d w => P d (X.orows (List.getD (List.getD w 0 []) 1 (X.d D.junk))))
theorem v_oI_FO5x1 {K : Nat → Nat → Nat → toI_FO5x1} {P : Nat → Nat → Nat → poI_FO5x1} {y0 y1} (h : Ev (fun _ k _ => x k) (Out.mk true (V.one (zi y0)) D.junk [[X.slf 0, X.own 0 5 1 y1]] 1)) (h2 : Ev (fun m k n => K m k n y0 y1) o) : Ev (fun m k n => r_oI_FO5x1 (x k) (K m k n) (P m k n)) o := Ev.two h h2 fun _ _ _ e => congrArg (r_oI_FO5x1 · _ _) e
abbrev toI_I := Int → Int → Option Out
abbrev poI_I := D → Int → Option Out
def r_oI_I (x : Option Out) (K : toI_I) (P : poI_I) := retK false [[Lf.int iK]] (Sh.one (Lf.int iK)) x (fun v w => K (zcN v 0) (zeN w 0 0)) (fun d w => P d (zeN w 0 0))
theorem v_oI_I {K : Nat → Nat → Nat → toI_I} {P : Nat → Nat → Nat → poI_I} {y0 y1} (h : Ev (fun _ k _ => x k) (Out.mk true (V.one (zi y0)) D.junk [[zi y1]] 0)) (h2 : Ev (fun m k n => K m k n y0 y1) o) : Ev (fun m k n => r_oI_I (x k) (K m k n) (P m k n)) o := Ev.two h h2 fun _ _ _ e => congrArg (r_oI_I · _ _) e
abbrev toL1 := LL → Option Out
abbrev poL1 := D → Option Out
def r_oL1 (x : Option Out) (K : toL1) (P : poL1) := retK false [] (Sh.one (Lf.lst 1)) x (fun v w => K (zcR v 0)) (fun d w => P d )
theorem v_oL1 {K : Nat → Nat → Nat → toL1} {P : Nat → Nat → Nat → poL1} {y0} (h : Ev (fun _ k _ => x k) (zO (V.one (zl 1 y0)))) (h2 : Ev (fun m k n => K m k n y0) o) : Ev (fun m k n => r_oL1 (x k) (K m k n) (P m k n)) o := Ev.two h h2 fun _ _ _ e => congrArg (r_oL1 · _ _) e
abbrev toS := ByteArray → Option Out
abbrev poS := D → Option Out
def r_oS (x : Option Out) (K : toS) (P : poS) := retK false [] (Sh.one Lf.str) x (fun v w => K (zcS v 0)) (fun d w => P d )
theorem v_oS {K : Nat → Nat → Nat → toS} {P : Nat → Nat → Nat → poS} {y0} (h : Ev (fun _ k _ => x k) (zO (V.one (zs y0)))) (h2 : Ev (fun m k n => K m k n y0) o) : Ev (fun m k n => r_oS (x k) (K m k n) (P m k n)) o := Ev.two h h2 fun _ _ _ e => congrArg (r_oS · _ _) e
abbrev toS_FJ5x1 := ByteArray → Option Out
abbrev poS_FJ5x1 := D → Option Out
def r_oS_FJ5x1 (x : Option Out) (K : toS_FJ5x1) (P : poS_FJ5x1) := retK true [[Lf.slf, (Lf.own 5 1)]] (Sh.one Lf.str) x (fun v w => K (zcS v 0)) (fun d w => P d )
theorem g_oS_FJ5x1 (y0 : ByteArray) (zJ : X) (K : ByteArray → Option Out) (P : D → Option Out) : r_oS_FJ5x1 (oS (V.one (zs y0)) [[X.slf 0, zJ]]) K P = K y0 := rfl
theorem v_oS_FJ5x1 {x : Nat → Option Out} {K : Nat → Nat → Nat → ByteArray → Option Out} {P : Nat → Nat → Nat → D → Option Out} {o : Out} {y0 : ByteArray} {zJ : X} (h : Ev (fun _ k _ => x k) (Out.mk true (V.one (zs y0)) D.junk [[X.slf 0, zJ]] 0)) (h2 : Ev (fun m k n => K m k n y0) o) : Ev (fun m k n => r_oS_FJ5x1 (x k) (K m k n) (P m k n)) o := Ev.two h h2 fun m k n e => (congrArg (fun z => r_oS_FJ5x1 z (K m k n) (P m k n)) e).trans (g_oS_FJ5x1 y0 zJ _ _)
abbrev tt2a5ISIIIoI := Int → ByteArray → Int → Int → Int → Int → Option Out
abbrev pt2a5ISIIIoI := D → Option Out
def r_t2a5ISIIIoI (x : Option Out) (K : tt2a5ISIIIoI) (P : pt2a5ISIIIoI) := retK false [] (Sh.tup [(Sh.agg [Lf.int iK, Lf.str, Lf.int iK, Lf.int iK, Lf.int iK]), (Sh.one (Lf.int iK))]) x (fun v w => K (zcN (V.comp v 0) 0) (zcS (V.comp v 0) 1) (zcN (V.comp v 0) 2) (zcN (V.comp v 0) 3) (zcN (V.comp v 0) 4) (zcN (V.comp v 1) 0)) (fun d w => P d )
theorem v_t2a5ISIIIoI {K : Nat → Nat → Nat → tt2a5ISIIIoI} {P : Nat → Nat → Nat → pt2a5ISIIIoI} {y0 y1 y2 y3 y4 y5} (h : Ev (fun _ k _ => x k) (zO (V.tup [vK y0 y1 y2 y3 y4, V.one (zi y5)]))) (h2 : Ev (fun m k n => K m k n y0 y1 y2 y3 y4 y5) o) : Ev (fun m k n => r_t2a5ISIIIoI (x k) (K m k n) (P m k n)) o := Ev.two h h2 fun _ _ _ e => congrArg (r_t2a5ISIIIoI · _ _) e
abbrev tt2oIoD_FO5x1 := Int → D → LL → Option Out
abbrev pt2oIoD_FO5x1 := D → LL → Option Out
def r_t2oIoD_FO5x1 (x : Option Out) (K : tt2oIoD_FO5x1) (P : pt2oIoD_FO5x1) := retK false [[Lf.slf, (Lf.own 5 1)]] (Sh.tup [(Sh.one (Lf.int iK)), (Sh.one Lf.any)]) x (fun v w => K (zcN (V.comp v 0) 0) (X.dd (X.cell (V.comp v 1) 0)) (X.orows (List.getD (List.getD w 0 []) 1 (X.d D.junk)))) (fun d w => P d (X.orows (List.getD (List.getD w 0 []) 1 (X.d D.junk))))
theorem v_t2oIoD_FO5x1 {K : Nat → Nat → Nat → tt2oIoD_FO5x1} {P : Nat → Nat → Nat → pt2oIoD_FO5x1} {y0 y1 y2} (h : Ev (fun _ k _ => x k) (Out.mk true (V.tup [V.one (zi y0), V.one (X.d y1)]) D.junk [[X.slf 0, X.own 0 5 1 y2]] 1)) (h2 : Ev (fun m k n => K m k n y0 y1 y2) o) : Ev (fun m k n => r_t2oIoD_FO5x1 (x k) (K m k n) (P m k n)) o := Ev.two h h2 fun _ _ _ e => congrArg (r_t2oIoD_FO5x1 · _ _) e
abbrev tt2oL5a4ISII := LL → Int → ByteArray → Int → Int → Option Out
abbrev pt2oL5a4ISII := D → Option Out
def r_t2oL5a4ISII (x : Option Out) (K : tt2oL5a4ISII) (P : pt2oL5a4ISII) := retK false [] (Sh.tup [(Sh.one (Lf.lst 5)), (Sh.agg [Lf.int iK, Lf.str, Lf.int iK, Lf.int iK])]) x (fun v w => K (zcR (V.comp v 0) 0) (zcN (V.comp v 1) 0) (zcS (V.comp v 1) 1) (zcN (V.comp v 1) 2) (zcN (V.comp v 1) 3)) (fun d w => P d )
theorem v_t2oL5a4ISII {K : Nat → Nat → Nat → tt2oL5a4ISII} {P : Nat → Nat → Nat → pt2oL5a4ISII} {y0 y1 y2 y3 y4} (h : Ev (fun _ k _ => x k) (zO (V.tup [V.one (zl 5 y0), vF y1 y2 y3 y4]))) (h2 : Ev (fun m k n => K m k n y0 y1 y2 y3 y4) o) : Ev (fun m k n => r_t2oL5a4ISII (x k) (K m k n) (P m k n)) o := Ev.two h h2 fun _ _ _ e => congrArg (r_t2oL5a4ISII · _ _) e
abbrev tt2oSoI := ByteArray → Int → Option Out
abbrev pt2oSoI := D → Option Out
def r_t2oSoI (x : Option Out) (K : tt2oSoI) (P : pt2oSoI) := retK false [] (Sh.tup [(Sh.one Lf.str), (Sh.one (Lf.int iK))]) x (fun v w => K (zcS (V.comp v 0) 0) (zcN (V.comp v 1) 0)) (fun d w => P d )
theorem v_t2oSoI {K : Nat → Nat → Nat → tt2oSoI} {P : Nat → Nat → Nat → pt2oSoI} {y0 y1} (h : Ev (fun _ k _ => x k) (zO (V.tup [V.one (zs y0), V.one (zi y1)]))) (h2 : Ev (fun m k n => K m k n y0 y1) o) : Ev (fun m k n => r_t2oSoI (x k) (K m k n) (P m k n)) o := Ev.two h h2 fun _ _ _ e => congrArg (r_t2oSoI · _ _) e
abbrev tt2oSoI_FJ5x1 := ByteArray → Int → Option Out
abbrev pt2oSoI_FJ5x1 := D → Option Out
def r_t2oSoI_FJ5x1 (x : Option Out) (K : tt2oSoI_FJ5x1) (P : pt2oSoI_FJ5x1) := retK true [[Lf.slf, (Lf.own 5 1)]] (Sh.tup [(Sh.one Lf.str), (Sh.one (Lf.int iK))]) x (fun v w => K (zcS (V.comp v 0) 0) (zcN (V.comp v 1) 0)) (fun d w => P d )
theorem g_t2oSoI_FJ5x1 (y0 : ByteArray) (y1 : Int) (zJ : X) (K : ByteArray → Int → Option Out) (P : D → Option Out) : r_t2oSoI_FJ5x1 (oS (V.tup [V.one (zs y0), V.one (zi y1)]) [[X.slf 0, zJ]]) K P = K y0 y1 := rfl
theorem v_t2oSoI_FJ5x1 {x : Nat → Option Out} {K : Nat → Nat → Nat → ByteArray → Int → Option Out} {P : Nat → Nat → Nat → D → Option Out} {o : Out} {y0 : ByteArray} {y1 : Int} {zJ : X} (h : Ev (fun _ k _ => x k) (Out.mk true (V.tup [V.one (zs y0), V.one (zi y1)]) D.junk [[X.slf 0, zJ]] 0)) (h2 : Ev (fun m k n => K m k n y0 y1) o) : Ev (fun m k n => r_t2oSoI_FJ5x1 (x k) (K m k n) (P m k n)) o := Ev.two h h2 fun m k n e => (congrArg (fun z => r_t2oSoI_FJ5x1 z (K m k n) (P m k n)) e).trans (g_t2oSoI_FJ5x1 y0 y1 zJ _ _)
theorem h_t2oSoI_FJ5x1 (y0 : ByteArray) (y1 : Int) (zJ : X) (K : ByteArray → Int → Option Out) (P : D → Option Out) : r_t2oSoI_FJ5x1 (some (Out.mk true (V.tup [V.one (X.d (D.str y0)), V.one (X.d (D.int iK y1))]) D.junk [[X.slf 0, zJ]] 1)) K P = K y0 y1 := rfl
theorem w_t2oSoI_FJ5x1 {x : Nat → Option Out} {K : Nat → Nat → Nat → ByteArray → Int → Option Out} {P : Nat → Nat → Nat → D → Option Out} {o : Out} {y0 : ByteArray} {y1 : Int} {zJ : X} (h : Ev (fun _ k _ => x k) (Out.mk true (V.tup [V.one (X.d (D.str y0)), V.one (X.d (D.int iK y1))]) D.junk [[X.slf 0, zJ]] 1)) (h2 : Ev (fun m k n => K m k n y0 y1) o) : Ev (fun m k n => r_t2oSoI_FJ5x1 (x k) (K m k n) (P m k n)) o := Ev.two h h2 fun m k n e => (congrArg (fun z => r_t2oSoI_FJ5x1 z (K m k n) (P m k n)) e).trans (h_t2oSoI_FJ5x1 y0 y1 zJ _ _)
end
end Go.Proofs.YtaphnbaiamnfpaaGreatDoor.Ps
