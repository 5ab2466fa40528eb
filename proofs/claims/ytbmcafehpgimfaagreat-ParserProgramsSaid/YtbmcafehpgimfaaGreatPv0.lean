/- What comes back from a call, taken apart. Printed by pack4.py. -/
import Derived.Test.YtbmcafehpgimfaaGreatPw3
import Derived.Test.YtbmcafehpgimfaaGreatPsV
namespace Go.Proofs.YtbmcafehpgimfaaGreat.Ps
set_option maxHeartbeats 0
set_option maxRecDepth 100000
set_option linter.unusedVariables false
open Go Go.RowKit
open Go.IntKind renaming i64 → iK, u8 → uK
abbrev LL : Type := List (List D)
abbrev zi (n : Int) : X := X.d (D.int iK n)
abbrev zs (s : ByteArray) : X := X.d (D.str s)
abbrev zl (k : Nat) (r : LL) : X := X.d (D.list k r)
abbrev zb (b : Bool) : X := X.d (D.bool b)
abbrev zP : V := V.one (X.ptr 0 0)
abbrev zA : List Lf := [Lf.lst 5, Lf.int iK]
abbrev zB : List Lf := [Lf.lst 5, Lf.int iK, Lf.bool]
abbrev zE : List Lf := [Lf.int iK, Lf.int iK, Lf.str, Lf.lst 1, Lf.lst 1, Lf.lst 8, Lf.int iK, Lf.int iK]
abbrev zK : List Lf := [Lf.int iK, Lf.str, Lf.int iK, Lf.int iK, Lf.int iK]
abbrev zF : List Lf := [Lf.int iK, Lf.str, Lf.int iK, Lf.int iK]
abbrev oA (r : LL) (i : Int) : List (List X) := [[zl 5 r, zi i]]
abbrev oB (r : LL) (i : Int) (b : Bool) : List (List X) := [[zl 5 r, zi i, zb b]]
abbrev rA (r : LL) (i : Int) : List (List Lf × List X) := [(zA, [zl 5 r, zi i])]
abbrev rB (r : LL) (i : Int) (b : Bool) : List (List Lf × List X) := [(zB, [zl 5 r, zi i, zb b])]
abbrev kA (r : LL) (i : Int) : Blk := Blk.mk zA [zl 5 r, zi i]
abbrev kB (r : LL) (i : Int) (b : Bool) : Blk := Blk.mk zB [zl 5 r, zi i, zb b]
abbrev vE (k n : Int) (s : ByteArray) (a b c : LL) (x y : Int) : V := V.agg [zi k, zi n, zs s, zl 1 a, zl 1 b, zl 8 c, zi x, zi y]
abbrev vK (k : Int) (s : ByteArray) (n x y : Int) : V := V.agg [zi k, zs s, zi n, zi x, zi y]
abbrev vF (k : Int) (s : ByteArray) (x y : Int) : V := V.agg [zi k, zs s, zi x, zi y]
abbrev dE (k n : Int) (s : ByteArray) (a b c : LL) (x y : Int) : List D := [D.int iK k, D.int iK n, D.str s, D.list 1 a, D.list 1 b, D.list 8 c, D.int iK x, D.int iK y]
abbrev hA (d : D) (r : LL) (i : Int) : Option Out := some (Out.mk false V.junk d (oA r i) 0)
abbrev hB (d : D) (r : LL) (i : Int) (b : Bool) : Option Out := some (Out.mk false V.junk d (oB r i b) 0)
abbrev h0 (d : D) : Option Out := some (Out.mk false V.junk d [] 0)
abbrev zcN (v : V) (i : Nat) : Int := D.num (X.dd (X.cell v i))
abbrev zcR (v : V) (i : Nat) : LL := D.rows (X.dd (X.cell v i))
abbrev zcS (v : V) (i : Nat) : ByteArray := D.bytes (X.dd (X.cell v i))
abbrev zcB (v : V) (i : Nat) : Bool := D.bit (X.dd (X.cell v i))
abbrev zeX (r : List (List X)) (i j : Nat) : D := X.dd (List.getD (List.getD r i []) j (X.d D.junk))
abbrev zeN (r : List (List X)) (i j : Nat) : Int := D.num (zeX r i j)
abbrev zeR (r : List (List X)) (i j : Nat) : LL := D.rows (zeX r i j)
abbrev zeS (r : List (List X)) (i j : Nat) : ByteArray := D.bytes (zeX r i j)
abbrev zeB (r : List (List X)) (i j : Nat) : Bool := D.bit (zeX r i j)
abbrev SM : Type := Bool → SemL
abbrev SC : Type := SExit → St → Option Out
@[reducible] def fK (Γ : SM) (k : Nat) (s : SFunc) (p : Nat) : SC := finK (Γ true) rc false (shp k) (SFunc.results s) p
@[reducible] noncomputable def jF (Γ : SM) (n : Nat) (c : SCode) (s : St) (K : SC) : Option Out := Jn (Γ false) shp n c s K
@[reducible] noncomputable def jN (Γ : SM) (n : Nat) (c : SCode) (v : List (Nat × V)) (b : List (Nat × Blk)) (l : List Nat) (x y z : Nat) (K : SC) : Option Out := Jn (Γ false) shp n c (St.mk v b l x y z []) K
@[reducible] def kL (Γ : SM) (n : Nat) (l : List Nat) (c : SCode) (K : SC) : SC := kLoop (loopK (Γ false) shp n) l c K
@[reducible] def lK (Γ : SM) (n : Nat) (m : List Nat) (c : SCode) (v : List (Nat × V)) (b : List (Nat × Blk)) (l : List Nat) (x y z : Nat) (K : SC) : Option Out := loopK (Γ false) shp n m c (St.mk v b l x y z []) K
@[reducible] def rF (Γ : SM) (k : Nat) (s : SFunc) (n : Nat) (a : List V) (r : List (List Lf × List X)) : Option Out := runF Γ shp rc false (shp k) s n a r
abbrev oR (v : V) : Option Out := some (Out.mk true v D.junk [] 0)
abbrev oS (v : V) (r : List (List X)) : Option Out := some (Out.mk true v D.junk r 0)
abbrev zO (v : V) : Out := Out.mk true v D.junk [] 0
abbrev wg0 (a0 : LL) (a1 : LL) (a2 : Int) (a3 : Int) (a4 : ByteArray) (a5 : LL) (a6 : LL) (a7 : LL) (a8 : Int) (a9 : Int) : V := V.agg [zl 5 a0, zl 14 a1, zi a2, zi a3, zs a4, zl 1 a5, zl 1 a6, zl 8 a7, zi a8, zi a9]
abbrev wg1 (a0 : ByteArray) (a1 : LL) (a2 : Int) (a3 : LL) (a4 : Int) (a5 : Int) (a6 : ByteArray) (a7 : LL) (a8 : LL) (a9 : LL) (a10 : Int) (a11 : Int) (a12 : Int) (a13 : Int) : V := V.agg [zs a0, zl 5 a1, zi a2, zl 2 a3, zi a4, zi a5, zs a6, zl 1 a7, zl 1 a8, zl 8 a9, zi a10, zi a11, zi a12, zi a13]
abbrev wm2 (a0 : Int) (a1 : LL) : Blk := Blk.mk [Lf.int iK, Lf.lst 2] [zi a0, zl 2 a1]
abbrev wm3 (a0 : LL) (a1 : LL) (a2 : Int) (a3 : Int) (a4 : ByteArray) (a5 : LL) (a6 : LL) (a7 : LL) (a8 : Int) (a9 : Int) : Blk := Blk.mk [Lf.lst 5, Lf.lst 14, Lf.int iK, Lf.int iK, Lf.str, Lf.lst 1, Lf.lst 1, Lf.lst 8, Lf.int iK, Lf.int iK] [zl 5 a0, zl 14 a1, zi a2, zi a3, zs a4, zl 1 a5, zl 1 a6, zl 8 a7, zi a8, zi a9]
abbrev wm4 (a0 : Int) (a1 : Int) (a2 : ByteArray) (a3 : LL) (a4 : LL) (a5 : LL) (a6 : Int) (a7 : Int) : Blk := Blk.mk zE [zi a0, zi a1, zs a2, zl 1 a3, zl 1 a4, zl 8 a5, zi a6, zi a7]
abbrev wm5 (a0 : Int) (a1 : ByteArray) (a2 : Int) (a3 : Int) : Blk := Blk.mk zF [zi a0, zs a1, zi a2, zi a3]
abbrev wm6 (a0 : Int) (a1 : ByteArray) (a2 : Int) (a3 : Int) (a4 : Int) : Blk := Blk.mk zK [zi a0, zs a1, zi a2, zi a3, zi a4]
theorem call_step {f : FuncId} {fn : SFunc} {args : List V} {rows : List (List Lf × List X)} {k : Nat} (h : progV f = some fn) (hn : Nat.beq args.length fn.nparams = true) :
    Ak (k + 1) false f args rows = runF (Ak k) shp rc false (shp f) fn k args rows := by
  have e : Ak (k + 1) false f args rows = (match progV f with
    | some fn => cond (Nat.beq args.length fn.nparams) (runF (Ak k) shp rc false (shp f) fn k args rows) none
    | none => cond false none (libV (Ak k false) f args rows)) := rfl
  rw [e, h]
  show cond _ _ _ = _
  rw [hn]
  rfl
def Ev (F : Nat → Nat → Nat → Option Out) (o : Out) : Prop := ∃ K, ∀ m k n, K ≤ m → K ≤ k → K ≤ n → F m k n = some o
abbrev Cal (f : FuncId) (args : List V) (rows : List (List Lf × List X)) (o : Out) : Prop := Ev (fun _ k _ => Ak k false f args rows) o
theorem Ev.two {F G H : Nat → Nat → Nat → Option Out} {o o' : Out} (h : Ev F o) (h2 : Ev G o') (hh : ∀ m k n, F m k n = some o → H m k n = G m k n) : Ev H o' := by
  obtain ⟨K, hK⟩ := h
  obtain ⟨L, hL⟩ := h2
  exact ⟨K + L, fun m k n h1 h2 h3 => (hh m k n (hK m k n (by omega) (by omega) (by omega))).trans (hL m k n (by omega) (by omega) (by omega))⟩
theorem Ev.step {F : Nat → Nat → Nat → Option Out} {o : Out} (h : Ev (fun m k n => F (m + 1) k n) o) : Ev F o := by
  obtain ⟨K, hK⟩ := h
  refine ⟨K + 1, fun m k n h1 h2 h3 => ?_⟩
  obtain ⟨m, rfl⟩ : ∃ m', m = m' + 1 := ⟨m - 1, by omega⟩
  exact hK m k n (by omega) (by omega) (by omega)
theorem Ev.diag {F : Nat → Nat → Nat → Option Out} {o : Out} (h : Ev F o) : Ev (fun m k n => F n k n) o := by
  obtain ⟨K, hK⟩ := h
  exact ⟨K, fun m k n h1 h2 h3 => hK n k n h3 h2 h3⟩
theorem Ev.call {f : FuncId} {args : List V} {rows : List (List Lf × List X)} {E : (Bool → SemL) → Nat → Option Out} {o : Out} (he : ∀ k, Ak (k + 1) false f args rows = E (Ak k) k) (h : Ev (fun _ k n => E (Ak k) n) o) : Cal f args rows o := by
  obtain ⟨K, hK⟩ := h
  refine ⟨K + 1, fun m k n h1 h2 h3 => ?_⟩
  obtain ⟨k, rfl⟩ : ∃ k', k = k' + 1 := ⟨k - 1, by omega⟩
  exact (he k).trans (hK k k k (by omega) (by omega) (by omega))
theorem Ev.dcall {f : FuncId} {args : List V} {rows : List (List Lf × List X)} {E : (Bool → SemL) → Nat → Option Out} {o : Out} (he : ∀ k, Ak (k + 1) true f args rows = E (Ak k) k) (h : Ev (fun _ k n => E (Ak k) n) o) : Ev (fun _ k _ => Ak k true f args rows) o := by
  obtain ⟨K, hK⟩ := h
  refine ⟨K + 1, fun m k n h1 h2 h3 => ?_⟩
  obtain ⟨k, rfl⟩ : ∃ k', k = k' + 1 := ⟨k - 1, by omega⟩
  exact (he k).trans (hK k k k (by omega) (by omega) (by omega))
theorem Ev.ret (o : Out) : Ev (fun _ _ _ => some o) o := ⟨0, fun _ _ _ _ _ _ => rfl⟩
theorem Ev.of {F : Nat → Nat → Nat → Option Out} {o : Out} (h : ∀ m k n, F m k n = some o) : Ev F o := ⟨0, fun m k n _ _ _ => h m k n⟩
theorem Ev.eq {F G : Nat → Nat → Nat → Option Out} {o : Out} (h : Ev G o) (e : ∀ m k n, F m k n = G m k n) : Ev F o := by
  obtain ⟨K, hK⟩ := h
  exact ⟨K, fun m k n h1 h2 h3 => (e m k n).trans (hK m k n h1 h2 h3)⟩
theorem Ev.yes {c : Bool} {F G : Nat → Nat → Nat → Option Out} {o : Out} (hc : c = true) (h : Ev F o) : Ev (fun m k n => bif c then F m k n else G m k n) o := by subst hc; exact h
theorem Ev.no {c : Bool} {F G : Nat → Nat → Nat → Option Out} {o : Out} (hc : c = false) (h : Ev G o) : Ev (fun m k n => bif c then F m k n else G m k n) o := by subst hc; exact h
section
variable {x : Nat → Option Out} {o : Out} {d : D}
abbrev ta10L5L14IISL1L1L8II_L5I := LL → LL → Int → Int → ByteArray → LL → LL → LL → Int → Int → LL → Int → Option Out
abbrev pa10L5L14IISL1L1L8II_L5I := D → LL → Int → Option Out
def r_a10L5L14IISL1L1L8II_L5I (x : Option Out) (K : ta10L5L14IISL1L1L8II_L5I) (P : pa10L5L14IISL1L1L8II_L5I) := retK [[Lf.lst 5, Lf.int iK]] (Sh.agg [Lf.lst 5, Lf.lst 14, Lf.int iK, Lf.int iK, Lf.str, Lf.lst 1, Lf.lst 1, Lf.lst 8, Lf.int iK, Lf.int iK]) x (fun v w => K (zcR v 0) (zcR v 1) (zcN v 2) (zcN v 3) (zcS v 4) (zcR v 5) (zcR v 6) (zcR v 7) (zcN v 8) (zcN v 9) (zeR w 0 0) (zeN w 0 1)) (fun d w => P d (zeR w 0 0) (zeN w 0 1))
theorem v_a10L5L14IISL1L1L8II_L5I {K : Nat → Nat → Nat → ta10L5L14IISL1L1L8II_L5I} {P : Nat → Nat → Nat → pa10L5L14IISL1L1L8II_L5I} {y0 y1 y2 y3 y4 y5 y6 y7 y8 y9 y10 y11} (h : Ev (fun _ k _ => x k) (Out.mk true (wg0 y0 y1 y2 y3 y4 y5 y6 y7 y8 y9) D.junk (oA y10 y11) 0)) (h2 : Ev (fun m k n => K m k n y0 y1 y2 y3 y4 y5 y6 y7 y8 y9 y10 y11) o) : Ev (fun m k n => r_a10L5L14IISL1L1L8II_L5I (x k) (K m k n) (P m k n)) o := Ev.two h h2 fun _ _ _ e => congrArg (r_a10L5L14IISL1L1L8II_L5I · _ _) e
theorem u_a10L5L14IISL1L1L8II_L5I {K : Nat → Nat → Nat → ta10L5L14IISL1L1L8II_L5I} {P : Nat → Nat → Nat → pa10L5L14IISL1L1L8II_L5I} {y10 y11} (h : Ev (fun _ k _ => x k) (Out.mk false V.junk d (oA y10 y11) 0)) (h2 : Ev (fun m k n => P m k n d y10 y11) o) : Ev (fun m k n => r_a10L5L14IISL1L1L8II_L5I (x k) (K m k n) (P m k n)) o := Ev.two h h2 fun _ _ _ e => congrArg (r_a10L5L14IISL1L1L8II_L5I · _ _) e
abbrev ta10L5L14IISL1L1L8II_L5IB := LL → LL → Int → Int → ByteArray → LL → LL → LL → Int → Int → LL → Int → Bool → Option Out
abbrev pa10L5L14IISL1L1L8II_L5IB := D → LL → Int → Bool → Option Out
def r_a10L5L14IISL1L1L8II_L5IB (x : Option Out) (K : ta10L5L14IISL1L1L8II_L5IB) (P : pa10L5L14IISL1L1L8II_L5IB) := retK [[Lf.lst 5, Lf.int iK, Lf.bool]] (Sh.agg [Lf.lst 5, Lf.lst 14, Lf.int iK, Lf.int iK, Lf.str, Lf.lst 1, Lf.lst 1, Lf.lst 8, Lf.int iK, Lf.int iK]) x (fun v w => K (zcR v 0) (zcR v 1) (zcN v 2) (zcN v 3) (zcS v 4) (zcR v 5) (zcR v 6) (zcR v 7) (zcN v 8) (zcN v 9) (zeR w 0 0) (zeN w 0 1) (zeB w 0 2)) (fun d w => P d (zeR w 0 0) (zeN w 0 1) (zeB w 0 2))
theorem v_a10L5L14IISL1L1L8II_L5IB {K : Nat → Nat → Nat → ta10L5L14IISL1L1L8II_L5IB} {P : Nat → Nat → Nat → pa10L5L14IISL1L1L8II_L5IB} {y0 y1 y2 y3 y4 y5 y6 y7 y8 y9 y10 y11 y12} (h : Ev (fun _ k _ => x k) (Out.mk true (wg0 y0 y1 y2 y3 y4 y5 y6 y7 y8 y9) D.junk (oB y10 y11 y12) 0)) (h2 : Ev (fun m k n => K m k n y0 y1 y2 y3 y4 y5 y6 y7 y8 y9 y10 y11 y12) o) : Ev (fun m k n => r_a10L5L14IISL1L1L8II_L5IB (x k) (K m k n) (P m k n)) o := Ev.two h h2 fun _ _ _ e => congrArg (r_a10L5L14IISL1L1L8II_L5IB · _ _) e
abbrev ta14SL5IL2IISL1L1L8IIII_L5I := ByteArray → LL → Int → LL → Int → Int → ByteArray → LL → LL → LL → Int → Int → Int → Int → LL → Int → Option Out
abbrev pa14SL5IL2IISL1L1L8IIII_L5I := D → LL → Int → Option Out
def r_a14SL5IL2IISL1L1L8IIII_L5I (x : Option Out) (K : ta14SL5IL2IISL1L1L8IIII_L5I) (P : pa14SL5IL2IISL1L1L8IIII_L5I) := retK [[Lf.lst 5, Lf.int iK]] (Sh.agg [Lf.str, Lf.lst 5, Lf.int iK, Lf.lst 2, Lf.int iK, Lf.int iK, Lf.str, Lf.lst 1, Lf.lst 1, Lf.lst 8, Lf.int iK, Lf.int iK, Lf.int iK, Lf.int iK]) x (fun v w => K (zcS v 0) (zcR v 1) (zcN v 2) (zcR v 3) (zcN v 4) (zcN v 5) (zcS v 6) (zcR v 7) (zcR v 8) (zcR v 9) (zcN v 10) (zcN v 11) (zcN v 12) (zcN v 13) (zeR w 0 0) (zeN w 0 1)) (fun d w => P d (zeR w 0 0) (zeN w 0 1))
theorem v_a14SL5IL2IISL1L1L8IIII_L5I {K : Nat → Nat → Nat → ta14SL5IL2IISL1L1L8IIII_L5I} {P : Nat → Nat → Nat → pa14SL5IL2IISL1L1L8IIII_L5I} {y0 y1 y2 y3 y4 y5 y6 y7 y8 y9 y10 y11 y12 y13 y14 y15} (h : Ev (fun _ k _ => x k) (Out.mk true (wg1 y0 y1 y2 y3 y4 y5 y6 y7 y8 y9 y10 y11 y12 y13) D.junk (oA y14 y15) 0)) (h2 : Ev (fun m k n => K m k n y0 y1 y2 y3 y4 y5 y6 y7 y8 y9 y10 y11 y12 y13 y14 y15) o) : Ev (fun m k n => r_a14SL5IL2IISL1L1L8IIII_L5I (x k) (K m k n) (P m k n)) o := Ev.two h h2 fun _ _ _ e => congrArg (r_a14SL5IL2IISL1L1L8IIII_L5I · _ _) e
theorem u_a14SL5IL2IISL1L1L8IIII_L5I {K : Nat → Nat → Nat → ta14SL5IL2IISL1L1L8IIII_L5I} {P : Nat → Nat → Nat → pa14SL5IL2IISL1L1L8IIII_L5I} {y14 y15} (h : Ev (fun _ k _ => x k) (Out.mk false V.junk d (oA y14 y15) 0)) (h2 : Ev (fun m k n => P m k n d y14 y15) o) : Ev (fun m k n => r_a14SL5IL2IISL1L1L8IIII_L5I (x k) (K m k n) (P m k n)) o := Ev.two h h2 fun _ _ _ e => congrArg (r_a14SL5IL2IISL1L1L8IIII_L5I · _ _) e
abbrev ta14SL5IL2IISL1L1L8IIII_L5IB := ByteArray → LL → Int → LL → Int → Int → ByteArray → LL → LL → LL → Int → Int → Int → Int → LL → Int → Bool → Option Out
abbrev pa14SL5IL2IISL1L1L8IIII_L5IB := D → LL → Int → Bool → Option Out
def r_a14SL5IL2IISL1L1L8IIII_L5IB (x : Option Out) (K : ta14SL5IL2IISL1L1L8IIII_L5IB) (P : pa14SL5IL2IISL1L1L8IIII_L5IB) := retK [[Lf.lst 5, Lf.int iK, Lf.bool]] (Sh.agg [Lf.str, Lf.lst 5, Lf.int iK, Lf.lst 2, Lf.int iK, Lf.int iK, Lf.str, Lf.lst 1, Lf.lst 1, Lf.lst 8, Lf.int iK, Lf.int iK, Lf.int iK, Lf.int iK]) x (fun v w => K (zcS v 0) (zcR v 1) (zcN v 2) (zcR v 3) (zcN v 4) (zcN v 5) (zcS v 6) (zcR v 7) (zcR v 8) (zcR v 9) (zcN v 10) (zcN v 11) (zcN v 12) (zcN v 13) (zeR w 0 0) (zeN w 0 1) (zeB w 0 2)) (fun d w => P d (zeR w 0 0) (zeN w 0 1) (zeB w 0 2))
theorem v_a14SL5IL2IISL1L1L8IIII_L5IB {K : Nat → Nat → Nat → ta14SL5IL2IISL1L1L8IIII_L5IB} {P : Nat → Nat → Nat → pa14SL5IL2IISL1L1L8IIII_L5IB} {y0 y1 y2 y3 y4 y5 y6 y7 y8 y9 y10 y11 y12 y13 y14 y15 y16} (h : Ev (fun _ k _ => x k) (Out.mk true (wg1 y0 y1 y2 y3 y4 y5 y6 y7 y8 y9 y10 y11 y12 y13) D.junk (oB y14 y15 y16) 0)) (h2 : Ev (fun m k n => K m k n y0 y1 y2 y3 y4 y5 y6 y7 y8 y9 y10 y11 y12 y13 y14 y15 y16) o) : Ev (fun m k n => r_a14SL5IL2IISL1L1L8IIII_L5IB (x k) (K m k n) (P m k n)) o := Ev.two h h2 fun _ _ _ e => congrArg (r_a14SL5IL2IISL1L1L8IIII_L5IB · _ _) e
abbrev ta2IL2_L5I := Int → LL → LL → Int → Option Out
abbrev pa2IL2_L5I := D → LL → Int → Option Out
def r_a2IL2_L5I (x : Option Out) (K : ta2IL2_L5I) (P : pa2IL2_L5I) := retK [[Lf.lst 5, Lf.int iK]] (Sh.agg [Lf.int iK, Lf.lst 2]) x (fun v w => K (zcN v 0) (zcR v 1) (zeR w 0 0) (zeN w 0 1)) (fun d w => P d (zeR w 0 0) (zeN w 0 1))
theorem v_a2IL2_L5I {K : Nat → Nat → Nat → ta2IL2_L5I} {P : Nat → Nat → Nat → pa2IL2_L5I} {y0 y1 y2 y3} (h : Ev (fun _ k _ => x k) (Out.mk true (V.agg [zi y0, zl 2 y1]) D.junk (oA y2 y3) 0)) (h2 : Ev (fun m k n => K m k n y0 y1 y2 y3) o) : Ev (fun m k n => r_a2IL2_L5I (x k) (K m k n) (P m k n)) o := Ev.two h h2 fun _ _ _ e => congrArg (r_a2IL2_L5I · _ _) e
theorem u_a2IL2_L5I {K : Nat → Nat → Nat → ta2IL2_L5I} {P : Nat → Nat → Nat → pa2IL2_L5I} {y2 y3} (h : Ev (fun _ k _ => x k) (Out.mk false V.junk d (oA y2 y3) 0)) (h2 : Ev (fun m k n => P m k n d y2 y3) o) : Ev (fun m k n => r_a2IL2_L5I (x k) (K m k n) (P m k n)) o := Ev.two h h2 fun _ _ _ e => congrArg (r_a2IL2_L5I · _ _) e
abbrev ta2IL2_L5IB := Int → LL → LL → Int → Bool → Option Out
abbrev pa2IL2_L5IB := D → LL → Int → Bool → Option Out
def r_a2IL2_L5IB (x : Option Out) (K : ta2IL2_L5IB) (P : pa2IL2_L5IB) := retK [[Lf.lst 5, Lf.int iK, Lf.bool]] (Sh.agg [Lf.int iK, Lf.lst 2]) x (fun v w => K (zcN v 0) (zcR v 1) (zeR w 0 0) (zeN w 0 1) (zeB w 0 2)) (fun d w => P d (zeR w 0 0) (zeN w 0 1) (zeB w 0 2))
theorem v_a2IL2_L5IB {K : Nat → Nat → Nat → ta2IL2_L5IB} {P : Nat → Nat → Nat → pa2IL2_L5IB} {y0 y1 y2 y3 y4} (h : Ev (fun _ k _ => x k) (Out.mk true (V.agg [zi y0, zl 2 y1]) D.junk (oB y2 y3 y4) 0)) (h2 : Ev (fun m k n => K m k n y0 y1 y2 y3 y4) o) : Ev (fun m k n => r_a2IL2_L5IB (x k) (K m k n) (P m k n)) o := Ev.two h h2 fun _ _ _ e => congrArg (r_a2IL2_L5IB · _ _) e
abbrev ta4ISII := Int → ByteArray → Int → Int → Option Out
abbrev pa4ISII := D → Option Out
def r_a4ISII (x : Option Out) (K : ta4ISII) (P : pa4ISII) := retK [] (Sh.agg [Lf.int iK, Lf.str, Lf.int iK, Lf.int iK]) x (fun v w => K (zcN v 0) (zcS v 1) (zcN v 2) (zcN v 3)) (fun d w => P d )
theorem g_a4ISII (y0 : Int) (y1 : ByteArray) (y2 y3 : Int) (K : Int → ByteArray → Int → Int → Option Out) (P : D → Option Out) : r_a4ISII (oR (vF y0 y1 y2 y3)) K P = K y0 y1 y2 y3 := rfl
theorem v_a4ISII {K : Nat → Nat → Nat → ta4ISII} {P : Nat → Nat → Nat → pa4ISII} {y0 y1 y2 y3} (h : Ev (fun _ k _ => x k) (Out.mk true (vF y0 y1 y2 y3) D.junk [] 0)) (h2 : Ev (fun m k n => K m k n y0 y1 y2 y3) o) : Ev (fun m k n => r_a4ISII (x k) (K m k n) (P m k n)) o := Ev.two h h2 fun _ _ _ e => congrArg (r_a4ISII · _ _) e
abbrev ta4ISII_L5IB := Int → ByteArray → Int → Int → LL → Int → Bool → Option Out
abbrev pa4ISII_L5IB := D → LL → Int → Bool → Option Out
def r_a4ISII_L5IB (x : Option Out) (K : ta4ISII_L5IB) (P : pa4ISII_L5IB) := retK [[Lf.lst 5, Lf.int iK, Lf.bool]] (Sh.agg [Lf.int iK, Lf.str, Lf.int iK, Lf.int iK]) x (fun v w => K (zcN v 0) (zcS v 1) (zcN v 2) (zcN v 3) (zeR w 0 0) (zeN w 0 1) (zeB w 0 2)) (fun d w => P d (zeR w 0 0) (zeN w 0 1) (zeB w 0 2))
theorem v_a4ISII_L5IB {K : Nat → Nat → Nat → ta4ISII_L5IB} {P : Nat → Nat → Nat → pa4ISII_L5IB} {y0 y1 y2 y3 y4 y5 y6} (h : Ev (fun _ k _ => x k) (Out.mk true (vF y0 y1 y2 y3) D.junk (oB y4 y5 y6) 0)) (h2 : Ev (fun m k n => K m k n y0 y1 y2 y3 y4 y5 y6) o) : Ev (fun m k n => r_a4ISII_L5IB (x k) (K m k n) (P m k n)) o := Ev.two h h2 fun _ _ _ e => congrArg (r_a4ISII_L5IB · _ _) e
abbrev ta4ISII_L5L14IISL1L1L8II := Int → ByteArray → Int → Int → LL → LL → Int → Int → ByteArray → LL → LL → LL → Int → Int → Option Out
abbrev pa4ISII_L5L14IISL1L1L8II := D → LL → LL → Int → Int → ByteArray → LL → LL → LL → Int → Int → Option Out
def r_a4ISII_L5L14IISL1L1L8II (x : Option Out) (K : ta4ISII_L5L14IISL1L1L8II) (P : pa4ISII_L5L14IISL1L1L8II) := retK [[Lf.lst 5, Lf.lst 14, Lf.int iK, Lf.int iK, Lf.str, Lf.lst 1, Lf.lst 1, Lf.lst 8, Lf.int iK, Lf.int iK]] (Sh.agg [Lf.int iK, Lf.str, Lf.int iK, Lf.int iK]) x (fun v w => K (zcN v 0) (zcS v 1) (zcN v 2) (zcN v 3) (zeR w 0 0) (zeR w 0 1) (zeN w 0 2) (zeN w 0 3) (zeS w 0 4) (zeR w 0 5) (zeR w 0 6) (zeR w 0 7) (zeN w 0 8) (zeN w 0 9)) (fun d w => P d (zeR w 0 0) (zeR w 0 1) (zeN w 0 2) (zeN w 0 3) (zeS w 0 4) (zeR w 0 5) (zeR w 0 6) (zeR w 0 7) (zeN w 0 8) (zeN w 0 9))
theorem v_a4ISII_L5L14IISL1L1L8II {K : Nat → Nat → Nat → ta4ISII_L5L14IISL1L1L8II} {P : Nat → Nat → Nat → pa4ISII_L5L14IISL1L1L8II} {y0 y1 y2 y3 y4 y5 y6 y7 y8 y9 y10 y11 y12 y13} (h : Ev (fun _ k _ => x k) (Out.mk true (vF y0 y1 y2 y3) D.junk [[zl 5 y4, zl 14 y5, zi y6, zi y7, zs y8, zl 1 y9, zl 1 y10, zl 8 y11, zi y12, zi y13]] 0)) (h2 : Ev (fun m k n => K m k n y0 y1 y2 y3 y4 y5 y6 y7 y8 y9 y10 y11 y12 y13) o) : Ev (fun m k n => r_a4ISII_L5L14IISL1L1L8II (x k) (K m k n) (P m k n)) o := Ev.two h h2 fun _ _ _ e => congrArg (r_a4ISII_L5L14IISL1L1L8II · _ _) e
abbrev ta5ISIII_L5I := Int → ByteArray → Int → Int → Int → LL → Int → Option Out
abbrev pa5ISIII_L5I := D → LL → Int → Option Out
def r_a5ISIII_L5I (x : Option Out) (K : ta5ISIII_L5I) (P : pa5ISIII_L5I) := retK [[Lf.lst 5, Lf.int iK]] (Sh.agg [Lf.int iK, Lf.str, Lf.int iK, Lf.int iK, Lf.int iK]) x (fun v w => K (zcN v 0) (zcS v 1) (zcN v 2) (zcN v 3) (zcN v 4) (zeR w 0 0) (zeN w 0 1)) (fun d w => P d (zeR w 0 0) (zeN w 0 1))
theorem v_a5ISIII_L5I {K : Nat → Nat → Nat → ta5ISIII_L5I} {P : Nat → Nat → Nat → pa5ISIII_L5I} {y0 y1 y2 y3 y4 y5 y6} (h : Ev (fun _ k _ => x k) (Out.mk true (vK y0 y1 y2 y3 y4) D.junk (oA y5 y6) 0)) (h2 : Ev (fun m k n => K m k n y0 y1 y2 y3 y4 y5 y6) o) : Ev (fun m k n => r_a5ISIII_L5I (x k) (K m k n) (P m k n)) o := Ev.two h h2 fun _ _ _ e => congrArg (r_a5ISIII_L5I · _ _) e
theorem u_a5ISIII_L5I {K : Nat → Nat → Nat → ta5ISIII_L5I} {P : Nat → Nat → Nat → pa5ISIII_L5I} {y5 y6} (h : Ev (fun _ k _ => x k) (Out.mk false V.junk d (oA y5 y6) 0)) (h2 : Ev (fun m k n => P m k n d y5 y6) o) : Ev (fun m k n => r_a5ISIII_L5I (x k) (K m k n) (P m k n)) o := Ev.two h h2 fun _ _ _ e => congrArg (r_a5ISIII_L5I · _ _) e
abbrev ta5ISIII_L5IB := Int → ByteArray → Int → Int → Int → LL → Int → Bool → Option Out
abbrev pa5ISIII_L5IB := D → LL → Int → Bool → Option Out
def r_a5ISIII_L5IB (x : Option Out) (K : ta5ISIII_L5IB) (P : pa5ISIII_L5IB) := retK [[Lf.lst 5, Lf.int iK, Lf.bool]] (Sh.agg [Lf.int iK, Lf.str, Lf.int iK, Lf.int iK, Lf.int iK]) x (fun v w => K (zcN v 0) (zcS v 1) (zcN v 2) (zcN v 3) (zcN v 4) (zeR w 0 0) (zeN w 0 1) (zeB w 0 2)) (fun d w => P d (zeR w 0 0) (zeN w 0 1) (zeB w 0 2))
theorem v_a5ISIII_L5IB {K : Nat → Nat → Nat → ta5ISIII_L5IB} {P : Nat → Nat → Nat → pa5ISIII_L5IB} {y0 y1 y2 y3 y4 y5 y6 y7} (h : Ev (fun _ k _ => x k) (Out.mk true (vK y0 y1 y2 y3 y4) D.junk (oB y5 y6 y7) 0)) (h2 : Ev (fun m k n => K m k n y0 y1 y2 y3 y4 y5 y6 y7) o) : Ev (fun m k n => r_a5ISIII_L5IB (x k) (K m k n) (P m k n)) o := Ev.two h h2 fun _ _ _ e => congrArg (r_a5ISIII_L5IB · _ _) e
abbrev ta5SIL2II_L5I := ByteArray → Int → LL → Int → Int → LL → Int → Option Out
abbrev pa5SIL2II_L5I := D → LL → Int → Option Out
def r_a5SIL2II_L5I (x : Option Out) (K : ta5SIL2II_L5I) (P : pa5SIL2II_L5I) := retK [[Lf.lst 5, Lf.int iK]] (Sh.agg [Lf.str, Lf.int iK, Lf.lst 2, Lf.int iK, Lf.int iK]) x (fun v w => K (zcS v 0) (zcN v 1) (zcR v 2) (zcN v 3) (zcN v 4) (zeR w 0 0) (zeN w 0 1)) (fun d w => P d (zeR w 0 0) (zeN w 0 1))
theorem v_a5SIL2II_L5I {K : Nat → Nat → Nat → ta5SIL2II_L5I} {P : Nat → Nat → Nat → pa5SIL2II_L5I} {y0 y1 y2 y3 y4 y5 y6} (h : Ev (fun _ k _ => x k) (Out.mk true (V.agg [zs y0, zi y1, zl 2 y2, zi y3, zi y4]) D.junk (oA y5 y6) 0)) (h2 : Ev (fun m k n => K m k n y0 y1 y2 y3 y4 y5 y6) o) : Ev (fun m k n => r_a5SIL2II_L5I (x k) (K m k n) (P m k n)) o := Ev.two h h2 fun _ _ _ e => congrArg (r_a5SIL2II_L5I · _ _) e
theorem u_a5SIL2II_L5I {K : Nat → Nat → Nat → ta5SIL2II_L5I} {P : Nat → Nat → Nat → pa5SIL2II_L5I} {y5 y6} (h : Ev (fun _ k _ => x k) (Out.mk false V.junk d (oA y5 y6) 0)) (h2 : Ev (fun m k n => P m k n d y5 y6) o) : Ev (fun m k n => r_a5SIL2II_L5I (x k) (K m k n) (P m k n)) o := Ev.two h h2 fun _ _ _ e => congrArg (r_a5SIL2II_L5I · _ _) e
abbrev ta5SIL2II_L5IB := ByteArray → Int → LL → Int → Int → LL → Int → Bool → Option Out
abbrev pa5SIL2II_L5IB := D → LL → Int → Bool → Option Out
def r_a5SIL2II_L5IB (x : Option Out) (K : ta5SIL2II_L5IB) (P : pa5SIL2II_L5IB) := retK [[Lf.lst 5, Lf.int iK, Lf.bool]] (Sh.agg [Lf.str, Lf.int iK, Lf.lst 2, Lf.int iK, Lf.int iK]) x (fun v w => K (zcS v 0) (zcN v 1) (zcR v 2) (zcN v 3) (zcN v 4) (zeR w 0 0) (zeN w 0 1) (zeB w 0 2)) (fun d w => P d (zeR w 0 0) (zeN w 0 1) (zeB w 0 2))
theorem v_a5SIL2II_L5IB {K : Nat → Nat → Nat → ta5SIL2II_L5IB} {P : Nat → Nat → Nat → pa5SIL2II_L5IB} {y0 y1 y2 y3 y4 y5 y6 y7} (h : Ev (fun _ k _ => x k) (Out.mk true (V.agg [zs y0, zi y1, zl 2 y2, zi y3, zi y4]) D.junk (oB y5 y6 y7) 0)) (h2 : Ev (fun m k n => K m k n y0 y1 y2 y3 y4 y5 y6 y7) o) : Ev (fun m k n => r_a5SIL2II_L5IB (x k) (K m k n) (P m k n)) o := Ev.two h h2 fun _ _ _ e => congrArg (r_a5SIL2II_L5IB · _ _) e
abbrev ta8IISL1L1L8II_L5I := Int → Int → ByteArray → LL → LL → LL → Int → Int → LL → Int → Option Out
abbrev pa8IISL1L1L8II_L5I := D → LL → Int → Option Out
def r_a8IISL1L1L8II_L5I (x : Option Out) (K : ta8IISL1L1L8II_L5I) (P : pa8IISL1L1L8II_L5I) := retK [[Lf.lst 5, Lf.int iK]] (Sh.agg [Lf.int iK, Lf.int iK, Lf.str, Lf.lst 1, Lf.lst 1, Lf.lst 8, Lf.int iK, Lf.int iK]) x (fun v w => K (zcN v 0) (zcN v 1) (zcS v 2) (zcR v 3) (zcR v 4) (zcR v 5) (zcN v 6) (zcN v 7) (zeR w 0 0) (zeN w 0 1)) (fun d w => P d (zeR w 0 0) (zeN w 0 1))
theorem v_a8IISL1L1L8II_L5I {K : Nat → Nat → Nat → ta8IISL1L1L8II_L5I} {P : Nat → Nat → Nat → pa8IISL1L1L8II_L5I} {y0 y1 y2 y3 y4 y5 y6 y7 y8 y9} (h : Ev (fun _ k _ => x k) (Out.mk true (vE y0 y1 y2 y3 y4 y5 y6 y7) D.junk (oA y8 y9) 0)) (h2 : Ev (fun m k n => K m k n y0 y1 y2 y3 y4 y5 y6 y7 y8 y9) o) : Ev (fun m k n => r_a8IISL1L1L8II_L5I (x k) (K m k n) (P m k n)) o := Ev.two h h2 fun _ _ _ e => congrArg (r_a8IISL1L1L8II_L5I · _ _) e
theorem u_a8IISL1L1L8II_L5I {K : Nat → Nat → Nat → ta8IISL1L1L8II_L5I} {P : Nat → Nat → Nat → pa8IISL1L1L8II_L5I} {y8 y9} (h : Ev (fun _ k _ => x k) (Out.mk false V.junk d (oA y8 y9) 0)) (h2 : Ev (fun m k n => P m k n d y8 y9) o) : Ev (fun m k n => r_a8IISL1L1L8II_L5I (x k) (K m k n) (P m k n)) o := Ev.two h h2 fun _ _ _ e => congrArg (r_a8IISL1L1L8II_L5I · _ _) e
abbrev ta8IISL1L1L8II_L5IB := Int → Int → ByteArray → LL → LL → LL → Int → Int → LL → Int → Bool → Option Out
abbrev pa8IISL1L1L8II_L5IB := D → LL → Int → Bool → Option Out
def r_a8IISL1L1L8II_L5IB (x : Option Out) (K : ta8IISL1L1L8II_L5IB) (P : pa8IISL1L1L8II_L5IB) := retK [[Lf.lst 5, Lf.int iK, Lf.bool]] (Sh.agg [Lf.int iK, Lf.int iK, Lf.str, Lf.lst 1, Lf.lst 1, Lf.lst 8, Lf.int iK, Lf.int iK]) x (fun v w => K (zcN v 0) (zcN v 1) (zcS v 2) (zcR v 3) (zcR v 4) (zcR v 5) (zcN v 6) (zcN v 7) (zeR w 0 0) (zeN w 0 1) (zeB w 0 2)) (fun d w => P d (zeR w 0 0) (zeN w 0 1) (zeB w 0 2))
theorem v_a8IISL1L1L8II_L5IB {K : Nat → Nat → Nat → ta8IISL1L1L8II_L5IB} {P : Nat → Nat → Nat → pa8IISL1L1L8II_L5IB} {y0 y1 y2 y3 y4 y5 y6 y7 y8 y9 y10} (h : Ev (fun _ k _ => x k) (Out.mk true (vE y0 y1 y2 y3 y4 y5 y6 y7) D.junk (oB y8 y9 y10) 0)) (h2 : Ev (fun m k n => K m k n y0 y1 y2 y3 y4 y5 y6 y7 y8 y9 y10) o) : Ev (fun m k n => r_a8IISL1L1L8II_L5IB (x k) (K m k n) (P m k n)) o := Ev.two h h2 fun _ _ _ e => congrArg (r_a8IISL1L1L8II_L5IB · _ _) e
abbrev ta8IISL1L1O29x8II_L5IB := Int → Int → ByteArray → LL → LL → LL → Int → Int → LL → Int → Bool → Option Out
abbrev pa8IISL1L1O29x8II_L5IB := D → LL → Int → Bool → Option Out
def r_a8IISL1L1O29x8II_L5IB (x : Option Out) (K : ta8IISL1L1O29x8II_L5IB) (P : pa8IISL1L1O29x8II_L5IB) := retK [[Lf.lst 5, Lf.int iK, Lf.bool]] (Sh.agg [Lf.int iK, Lf.int iK, Lf.str, Lf.lst 1, Lf.lst 1, (Lf.own 29 8), Lf.int iK, Lf.int iK]) x (fun v w => K (zcN v 0) (zcN v 1) (zcS v 2) (zcR v 3) (zcR v 4) (X.orows (X.cell v 5)) (zcN v 6) (zcN v 7) (zeR w 0 0) (zeN w 0 1) (zeB w 0 2)) (fun d w => P d (zeR w 0 0) (zeN w 0 1) (zeB w 0 2))
theorem v_a8IISL1L1O29x8II_L5IB {K : Nat → Nat → Nat → ta8IISL1L1O29x8II_L5IB} {P : Nat → Nat → Nat → pa8IISL1L1O29x8II_L5IB} {y0 y1 y2 y3 y4 y5 y6 y7 y8 y9 y10} (h : Ev (fun _ k _ => x k) (Out.mk true (V.agg [zi y0, zi y1, zs y2, zl 1 y3, zl 1 y4, X.own 0 29 8 y5, zi y6, zi y7]) D.junk (oB y8 y9 y10) 1)) (h2 : Ev (fun m k n => K m k n y0 y1 y2 y3 y4 y5 y6 y7 y8 y9 y10) o) : Ev (fun m k n => r_a8IISL1L1O29x8II_L5IB (x k) (K m k n) (P m k n)) o := Ev.two h h2 fun _ _ _ e => congrArg (r_a8IISL1L1O29x8II_L5IB · _ _) e
abbrev ta8IISN1N1N8II := Int → Int → ByteArray → Int → Int → Option Out
abbrev pa8IISN1N1N8II := D → Option Out
def r_a8IISN1N1N8II (x : Option Out) (K : ta8IISN1N1N8II) (P : pa8IISN1N1N8II) := retK [] (Sh.agg [Lf.int iK, Lf.int iK, Lf.str, (Lf.nil 1), (Lf.nil 1), (Lf.nil 8), Lf.int iK, Lf.int iK]) x (fun v w => K (zcN v 0) (zcN v 1) (zcS v 2) (zcN v 6) (zcN v 7)) (fun d w => P d )
theorem v_a8IISN1N1N8II {K : Nat → Nat → Nat → ta8IISN1N1N8II} {P : Nat → Nat → Nat → pa8IISN1N1N8II} {y0 y1 y2 y3 y4} (h : Ev (fun _ k _ => x k) (zO (V.agg [zi y0, zi y1, zs y2, X.nilL 1, X.nilL 1, X.nilL 8, zi y3, zi y4]))) (h2 : Ev (fun m k n => K m k n y0 y1 y2 y3 y4) o) : Ev (fun m k n => r_a8IISN1N1N8II (x k) (K m k n) (P m k n)) o := Ev.two h h2 fun _ _ _ e => congrArg (r_a8IISN1N1N8II · _ _) e
abbrev ta8IISN1N1N8II_L5IB := Int → Int → ByteArray → Int → Int → LL → Int → Bool → Option Out
abbrev pa8IISN1N1N8II_L5IB := D → LL → Int → Bool → Option Out
def r_a8IISN1N1N8II_L5IB (x : Option Out) (K : ta8IISN1N1N8II_L5IB) (P : pa8IISN1N1N8II_L5IB) := retK [[Lf.lst 5, Lf.int iK, Lf.bool]] (Sh.agg [Lf.int iK, Lf.int iK, Lf.str, (Lf.nil 1), (Lf.nil 1), (Lf.nil 8), Lf.int iK, Lf.int iK]) x (fun v w => K (zcN v 0) (zcN v 1) (zcS v 2) (zcN v 6) (zcN v 7) (zeR w 0 0) (zeN w 0 1) (zeB w 0 2)) (fun d w => P d (zeR w 0 0) (zeN w 0 1) (zeB w 0 2))
theorem v_a8IISN1N1N8II_L5IB {K : Nat → Nat → Nat → ta8IISN1N1N8II_L5IB} {P : Nat → Nat → Nat → pa8IISN1N1N8II_L5IB} {y0 y1 y2 y3 y4 y5 y6 y7} (h : Ev (fun _ k _ => x k) (Out.mk true (V.agg [zi y0, zi y1, zs y2, X.nilL 1, X.nilL 1, X.nilL 8, zi y3, zi y4]) D.junk (oB y5 y6 y7) 0)) (h2 : Ev (fun m k n => K m k n y0 y1 y2 y3 y4 y5 y6 y7) o) : Ev (fun m k n => r_a8IISN1N1N8II_L5IB (x k) (K m k n) (P m k n)) o := Ev.two h h2 fun _ _ _ e => congrArg (r_a8IISN1N1N8II_L5IB · _ _) e
abbrev tn_L5I := LL → Int → Option Out
abbrev pn_L5I := D → LL → Int → Option Out
def r_n_L5I (x : Option Out) (K : tn_L5I) (P : pn_L5I) := retK [[Lf.lst 5, Lf.int iK]] Sh.none x (fun v w => K (zeR w 0 0) (zeN w 0 1)) (fun d w => P d (zeR w 0 0) (zeN w 0 1))
theorem v_n_L5I {K : Nat → Nat → Nat → tn_L5I} {P : Nat → Nat → Nat → pn_L5I} {y0 y1 vv} (h : Ev (fun _ k _ => x k) (Out.mk true (vv) D.junk (oA y0 y1) 0)) (h2 : Ev (fun m k n => K m k n y0 y1) o) : Ev (fun m k n => r_n_L5I (x k) (K m k n) (P m k n)) o := Ev.two h h2 fun _ _ _ e => congrArg (r_n_L5I · _ _) e
theorem u_n_L5I {K : Nat → Nat → Nat → tn_L5I} {P : Nat → Nat → Nat → pn_L5I} {y0 y1} (h : Ev (fun _ k _ => x k) (Out.mk false V.junk d (oA y0 y1) 0)) (h2 : Ev (fun m k n => P m k n d y0 y1) o) : Ev (fun m k n => r_n_L5I (x k) (K m k n) (P m k n)) o := Ev.two h h2 fun _ _ _ e => congrArg (r_n_L5I · _ _) e
abbrev tn_L5IB := LL → Int → Bool → Option Out
abbrev pn_L5IB := D → LL → Int → Bool → Option Out
def r_n_L5IB (x : Option Out) (K : tn_L5IB) (P : pn_L5IB) := retK [[Lf.lst 5, Lf.int iK, Lf.bool]] Sh.none x (fun v w => K (zeR w 0 0) (zeN w 0 1) (zeB w 0 2)) (fun d w => P d (zeR w 0 0) (zeN w 0 1) (zeB w 0 2))
theorem v_n_L5IB {K : Nat → Nat → Nat → tn_L5IB} {P : Nat → Nat → Nat → pn_L5IB} {y0 y1 y2 vv} (h : Ev (fun _ k _ => x k) (Out.mk true (vv) D.junk (oB y0 y1 y2) 0)) (h2 : Ev (fun m k n => K m k n y0 y1 y2) o) : Ev (fun m k n => r_n_L5IB (x k) (K m k n) (P m k n)) o := Ev.two h h2 fun _ _ _ e => congrArg (r_n_L5IB · _ _) e
abbrev tn_L5I_L5L14IISL1L1L8II := LL → Int → LL → LL → Int → Int → ByteArray → LL → LL → LL → Int → Int → Option Out
abbrev pn_L5I_L5L14IISL1L1L8II := D → LL → Int → LL → LL → Int → Int → ByteArray → LL → LL → LL → Int → Int → Option Out
def r_n_L5I_L5L14IISL1L1L8II (x : Option Out) (K : tn_L5I_L5L14IISL1L1L8II) (P : pn_L5I_L5L14IISL1L1L8II) := retK [[Lf.lst 5, Lf.int iK], [Lf.lst 5, Lf.lst 14, Lf.int iK, Lf.int iK, Lf.str, Lf.lst 1, Lf.lst 1, Lf.lst 8, Lf.int iK, Lf.int iK]] Sh.none x (fun v w => K (zeR w 0 0) (zeN w 0 1) (zeR w 1 0) (zeR w 1 1) (zeN w 1 2) (zeN w 1 3) (zeS w 1 4) (zeR w 1 5) (zeR w 1 6) (zeR w 1 7) (zeN w 1 8) (zeN w 1 9)) (fun d w => P d (zeR w 0 0) (zeN w 0 1) (zeR w 1 0) (zeR w 1 1) (zeN w 1 2) (zeN w 1 3) (zeS w 1 4) (zeR w 1 5) (zeR w 1 6) (zeR w 1 7) (zeN w 1 8) (zeN w 1 9))
theorem v_n_L5I_L5L14IISL1L1L8II {K : Nat → Nat → Nat → tn_L5I_L5L14IISL1L1L8II} {P : Nat → Nat → Nat → pn_L5I_L5L14IISL1L1L8II} {y0 y1 y2 y3 y4 y5 y6 y7 y8 y9 y10 y11 vv} (h : Ev (fun _ k _ => x k) (Out.mk true (vv) D.junk [[zl 5 y0, zi y1], [zl 5 y2, zl 14 y3, zi y4, zi y5, zs y6, zl 1 y7, zl 1 y8, zl 8 y9, zi y10, zi y11]] 0)) (h2 : Ev (fun m k n => K m k n y0 y1 y2 y3 y4 y5 y6 y7 y8 y9 y10 y11) o) : Ev (fun m k n => r_n_L5I_L5L14IISL1L1L8II (x k) (K m k n) (P m k n)) o := Ev.two h h2 fun _ _ _ e => congrArg (r_n_L5I_L5L14IISL1L1L8II · _ _) e
theorem u_n_L5I_L5L14IISL1L1L8II {K : Nat → Nat → Nat → tn_L5I_L5L14IISL1L1L8II} {P : Nat → Nat → Nat → pn_L5I_L5L14IISL1L1L8II} {y0 y1 y2 y3 y4 y5 y6 y7 y8 y9 y10 y11} (h : Ev (fun _ k _ => x k) (Out.mk false V.junk d [[zl 5 y0, zi y1], [zl 5 y2, zl 14 y3, zi y4, zi y5, zs y6, zl 1 y7, zl 1 y8, zl 8 y9, zi y10, zi y11]] 0)) (h2 : Ev (fun m k n => P m k n d y0 y1 y2 y3 y4 y5 y6 y7 y8 y9 y10 y11) o) : Ev (fun m k n => r_n_L5I_L5L14IISL1L1L8II (x k) (K m k n) (P m k n)) o := Ev.two h h2 fun _ _ _ e => congrArg (r_n_L5I_L5L14IISL1L1L8II · _ _) e
abbrev toB := Bool → Option Out
abbrev poB := D → Option Out
def r_oB (x : Option Out) (K : toB) (P : poB) := retK [] (Sh.one Lf.bool) x (fun v w => K (zcB v 0)) (fun d w => P d )
theorem v_oB {K : Nat → Nat → Nat → toB} {P : Nat → Nat → Nat → poB} {y0} (h : Ev (fun _ k _ => x k) (zO (V.one (zb y0)))) (h2 : Ev (fun m k n => K m k n y0) o) : Ev (fun m k n => r_oB (x k) (K m k n) (P m k n)) o := Ev.two h h2 fun _ _ _ e => congrArg (r_oB · _ _) e
abbrev toB_L5I := Bool → LL → Int → Option Out
abbrev poB_L5I := D → LL → Int → Option Out
def r_oB_L5I (x : Option Out) (K : toB_L5I) (P : poB_L5I) := retK [[Lf.lst 5, Lf.int iK]] (Sh.one Lf.bool) x (fun v w => K (zcB v 0) (zeR w 0 0) (zeN w 0 1)) (fun d w => P d (zeR w 0 0) (zeN w 0 1))
theorem v_oB_L5I {K : Nat → Nat → Nat → toB_L5I} {P : Nat → Nat → Nat → poB_L5I} {y0 y1 y2} (h : Ev (fun _ k _ => x k) (Out.mk true (V.one (zb y0)) D.junk (oA y1 y2) 0)) (h2 : Ev (fun m k n => K m k n y0 y1 y2) o) : Ev (fun m k n => r_oB_L5I (x k) (K m k n) (P m k n)) o := Ev.two h h2 fun _ _ _ e => congrArg (r_oB_L5I · _ _) e
abbrev toB_L5IB := Bool → LL → Int → Bool → Option Out
abbrev poB_L5IB := D → LL → Int → Bool → Option Out
def r_oB_L5IB (x : Option Out) (K : toB_L5IB) (P : poB_L5IB) := retK [[Lf.lst 5, Lf.int iK, Lf.bool]] (Sh.one Lf.bool) x (fun v w => K (zcB v 0) (zeR w 0 0) (zeN w 0 1) (zeB w 0 2)) (fun d w => P d (zeR w 0 0) (zeN w 0 1) (zeB w 0 2))
theorem v_oB_L5IB {K : Nat → Nat → Nat → toB_L5IB} {P : Nat → Nat → Nat → poB_L5IB} {y0 y1 y2 y3} (h : Ev (fun _ k _ => x k) (Out.mk true (V.one (zb y0)) D.junk (oB y1 y2 y3) 0)) (h2 : Ev (fun m k n => K m k n y0 y1 y2 y3) o) : Ev (fun m k n => r_oB_L5IB (x k) (K m k n) (P m k n)) o := Ev.two h h2 fun _ _ _ e => congrArg (r_oB_L5IB · _ _) e
abbrev toI := Int → Option Out
abbrev poI := D → Option Out
def r_oI (x : Option Out) (K : toI) (P : poI) := retK [] (Sh.one (Lf.int iK)) x (fun v w => K (zcN v 0)) (fun d w => P d )
theorem v_oI {K : Nat → Nat → Nat → toI} {P : Nat → Nat → Nat → poI} {y0} (h : Ev (fun _ k _ => x k) (zO (V.one (zi y0)))) (h2 : Ev (fun m k n => K m k n y0) o) : Ev (fun m k n => r_oI (x k) (K m k n) (P m k n)) o := Ev.two h h2 fun _ _ _ e => congrArg (r_oI · _ _) e
abbrev toI_L5I := Int → LL → Int → Option Out
abbrev poI_L5I := D → LL → Int → Option Out
def r_oI_L5I (x : Option Out) (K : toI_L5I) (P : poI_L5I) := retK [[Lf.lst 5, Lf.int iK]] (Sh.one (Lf.int iK)) x (fun v w => K (zcN v 0) (zeR w 0 0) (zeN w 0 1)) (fun d w => P d (zeR w 0 0) (zeN w 0 1))
theorem v_oI_L5I {K : Nat → Nat → Nat → toI_L5I} {P : Nat → Nat → Nat → poI_L5I} {y0 y1 y2} (h : Ev (fun _ k _ => x k) (Out.mk true (V.one (zi y0)) D.junk (oA y1 y2) 0)) (h2 : Ev (fun m k n => K m k n y0 y1 y2) o) : Ev (fun m k n => r_oI_L5I (x k) (K m k n) (P m k n)) o := Ev.two h h2 fun _ _ _ e => congrArg (r_oI_L5I · _ _) e
theorem u_oI_L5I {K : Nat → Nat → Nat → toI_L5I} {P : Nat → Nat → Nat → poI_L5I} {y1 y2} (h : Ev (fun _ k _ => x k) (Out.mk false V.junk d (oA y1 y2) 0)) (h2 : Ev (fun m k n => P m k n d y1 y2) o) : Ev (fun m k n => r_oI_L5I (x k) (K m k n) (P m k n)) o := Ev.two h h2 fun _ _ _ e => congrArg (r_oI_L5I · _ _) e
abbrev toI_L5IB := Int → LL → Int → Bool → Option Out
abbrev poI_L5IB := D → LL → Int → Bool → Option Out
def r_oI_L5IB (x : Option Out) (K : toI_L5IB) (P : poI_L5IB) := retK [[Lf.lst 5, Lf.int iK, Lf.bool]] (Sh.one (Lf.int iK)) x (fun v w => K (zcN v 0) (zeR w 0 0) (zeN w 0 1) (zeB w 0 2)) (fun d w => P d (zeR w 0 0) (zeN w 0 1) (zeB w 0 2))
theorem v_oI_L5IB {K : Nat → Nat → Nat → toI_L5IB} {P : Nat → Nat → Nat → poI_L5IB} {y0 y1 y2 y3} (h : Ev (fun _ k _ => x k) (Out.mk true (V.one (zi y0)) D.junk (oB y1 y2 y3) 0)) (h2 : Ev (fun m k n => K m k n y0 y1 y2 y3) o) : Ev (fun m k n => r_oI_L5IB (x k) (K m k n) (P m k n)) o := Ev.two h h2 fun _ _ _ e => congrArg (r_oI_L5IB · _ _) e
abbrev toL1 := LL → Option Out
abbrev poL1 := D → Option Out
def r_oL1 (x : Option Out) (K : toL1) (P : poL1) := retK [] (Sh.one (Lf.lst 1)) x (fun v w => K (zcR v 0)) (fun d w => P d )
theorem v_oL1 {K : Nat → Nat → Nat → toL1} {P : Nat → Nat → Nat → poL1} {y0} (h : Ev (fun _ k _ => x k) (zO (V.one (zl 1 y0)))) (h2 : Ev (fun m k n => K m k n y0) o) : Ev (fun m k n => r_oL1 (x k) (K m k n) (P m k n)) o := Ev.two h h2 fun _ _ _ e => congrArg (r_oL1 · _ _) e
abbrev toL1_L5I := LL → LL → Int → Option Out
abbrev poL1_L5I := D → LL → Int → Option Out
def r_oL1_L5I (x : Option Out) (K : toL1_L5I) (P : poL1_L5I) := retK [[Lf.lst 5, Lf.int iK]] (Sh.one (Lf.lst 1)) x (fun v w => K (zcR v 0) (zeR w 0 0) (zeN w 0 1)) (fun d w => P d (zeR w 0 0) (zeN w 0 1))
theorem v_oL1_L5I {K : Nat → Nat → Nat → toL1_L5I} {P : Nat → Nat → Nat → poL1_L5I} {y0 y1 y2} (h : Ev (fun _ k _ => x k) (Out.mk true (V.one (zl 1 y0)) D.junk (oA y1 y2) 0)) (h2 : Ev (fun m k n => K m k n y0 y1 y2) o) : Ev (fun m k n => r_oL1_L5I (x k) (K m k n) (P m k n)) o := Ev.two h h2 fun _ _ _ e => congrArg (r_oL1_L5I · _ _) e
theorem u_oL1_L5I {K : Nat → Nat → Nat → toL1_L5I} {P : Nat → Nat → Nat → poL1_L5I} {y1 y2} (h : Ev (fun _ k _ => x k) (Out.mk false V.junk d (oA y1 y2) 0)) (h2 : Ev (fun m k n => P m k n d y1 y2) o) : Ev (fun m k n => r_oL1_L5I (x k) (K m k n) (P m k n)) o := Ev.two h h2 fun _ _ _ e => congrArg (r_oL1_L5I · _ _) e
abbrev toL1_L5IB := LL → LL → Int → Bool → Option Out
abbrev poL1_L5IB := D → LL → Int → Bool → Option Out
def r_oL1_L5IB (x : Option Out) (K : toL1_L5IB) (P : poL1_L5IB) := retK [[Lf.lst 5, Lf.int iK, Lf.bool]] (Sh.one (Lf.lst 1)) x (fun v w => K (zcR v 0) (zeR w 0 0) (zeN w 0 1) (zeB w 0 2)) (fun d w => P d (zeR w 0 0) (zeN w 0 1) (zeB w 0 2))
theorem v_oL1_L5IB {K : Nat → Nat → Nat → toL1_L5IB} {P : Nat → Nat → Nat → poL1_L5IB} {y0 y1 y2 y3} (h : Ev (fun _ k _ => x k) (Out.mk true (V.one (zl 1 y0)) D.junk (oB y1 y2 y3) 0)) (h2 : Ev (fun m k n => K m k n y0 y1 y2 y3) o) : Ev (fun m k n => r_oL1_L5IB (x k) (K m k n) (P m k n)) o := Ev.two h h2 fun _ _ _ e => congrArg (r_oL1_L5IB · _ _) e
abbrev toL8_L5I := LL → LL → Int → Option Out
abbrev poL8_L5I := D → LL → Int → Option Out
def r_oL8_L5I (x : Option Out) (K : toL8_L5I) (P : poL8_L5I) := retK [[Lf.lst 5, Lf.int iK]] (Sh.one (Lf.lst 8)) x (fun v w => K (zcR v 0) (zeR w 0 0) (zeN w 0 1)) (fun d w => P d (zeR w 0 0) (zeN w 0 1))
theorem v_oL8_L5I {K : Nat → Nat → Nat → toL8_L5I} {P : Nat → Nat → Nat → poL8_L5I} {y0 y1 y2} (h : Ev (fun _ k _ => x k) (Out.mk true (V.one (zl 8 y0)) D.junk (oA y1 y2) 0)) (h2 : Ev (fun m k n => K m k n y0 y1 y2) o) : Ev (fun m k n => r_oL8_L5I (x k) (K m k n) (P m k n)) o := Ev.two h h2 fun _ _ _ e => congrArg (r_oL8_L5I · _ _) e
theorem u_oL8_L5I {K : Nat → Nat → Nat → toL8_L5I} {P : Nat → Nat → Nat → poL8_L5I} {y1 y2} (h : Ev (fun _ k _ => x k) (Out.mk false V.junk d (oA y1 y2) 0)) (h2 : Ev (fun m k n => P m k n d y1 y2) o) : Ev (fun m k n => r_oL8_L5I (x k) (K m k n) (P m k n)) o := Ev.two h h2 fun _ _ _ e => congrArg (r_oL8_L5I · _ _) e
abbrev toL8_L5IB := LL → LL → Int → Bool → Option Out
abbrev poL8_L5IB := D → LL → Int → Bool → Option Out
def r_oL8_L5IB (x : Option Out) (K : toL8_L5IB) (P : poL8_L5IB) := retK [[Lf.lst 5, Lf.int iK, Lf.bool]] (Sh.one (Lf.lst 8)) x (fun v w => K (zcR v 0) (zeR w 0 0) (zeN w 0 1) (zeB w 0 2)) (fun d w => P d (zeR w 0 0) (zeN w 0 1) (zeB w 0 2))
theorem v_oL8_L5IB {K : Nat → Nat → Nat → toL8_L5IB} {P : Nat → Nat → Nat → poL8_L5IB} {y0 y1 y2 y3} (h : Ev (fun _ k _ => x k) (Out.mk true (V.one (zl 8 y0)) D.junk (oB y1 y2 y3) 0)) (h2 : Ev (fun m k n => K m k n y0 y1 y2 y3) o) : Ev (fun m k n => r_oL8_L5IB (x k) (K m k n) (P m k n)) o := Ev.two h h2 fun _ _ _ e => congrArg (r_oL8_L5IB · _ _) e
abbrev toS := ByteArray → Option Out
abbrev poS := D → Option Out
def r_oS (x : Option Out) (K : toS) (P : poS) := retK [] (Sh.one Lf.str) x (fun v w => K (zcS v 0)) (fun d w => P d )
theorem v_oS {K : Nat → Nat → Nat → toS} {P : Nat → Nat → Nat → poS} {y0} (h : Ev (fun _ k _ => x k) (zO (V.one (zs y0)))) (h2 : Ev (fun m k n => K m k n y0) o) : Ev (fun m k n => r_oS (x k) (K m k n) (P m k n)) o := Ev.two h h2 fun _ _ _ e => congrArg (r_oS · _ _) e
abbrev toS_L5I := ByteArray → LL → Int → Option Out
abbrev poS_L5I := D → LL → Int → Option Out
def r_oS_L5I (x : Option Out) (K : toS_L5I) (P : poS_L5I) := retK [[Lf.lst 5, Lf.int iK]] (Sh.one Lf.str) x (fun v w => K (zcS v 0) (zeR w 0 0) (zeN w 0 1)) (fun d w => P d (zeR w 0 0) (zeN w 0 1))
theorem v_oS_L5I {K : Nat → Nat → Nat → toS_L5I} {P : Nat → Nat → Nat → poS_L5I} {y0 y1 y2} (h : Ev (fun _ k _ => x k) (Out.mk true (V.one (zs y0)) D.junk (oA y1 y2) 0)) (h2 : Ev (fun m k n => K m k n y0 y1 y2) o) : Ev (fun m k n => r_oS_L5I (x k) (K m k n) (P m k n)) o := Ev.two h h2 fun _ _ _ e => congrArg (r_oS_L5I · _ _) e
abbrev tt2a10L5L14IISL1L1L8IIa4ISII := LL → LL → Int → Int → ByteArray → LL → LL → LL → Int → Int → Int → ByteArray → Int → Int → Option Out
abbrev pt2a10L5L14IISL1L1L8IIa4ISII := D → Option Out
def r_t2a10L5L14IISL1L1L8IIa4ISII (x : Option Out) (K : tt2a10L5L14IISL1L1L8IIa4ISII) (P : pt2a10L5L14IISL1L1L8IIa4ISII) := retK [] (Sh.tup [(Sh.agg [Lf.lst 5, Lf.lst 14, Lf.int iK, Lf.int iK, Lf.str, Lf.lst 1, Lf.lst 1, Lf.lst 8, Lf.int iK, Lf.int iK]), (Sh.agg [Lf.int iK, Lf.str, Lf.int iK, Lf.int iK])]) x (fun v w => K (zcR (V.comp v 0) 0) (zcR (V.comp v 0) 1) (zcN (V.comp v 0) 2) (zcN (V.comp v 0) 3) (zcS (V.comp v 0) 4) (zcR (V.comp v 0) 5) (zcR (V.comp v 0) 6) (zcR (V.comp v 0) 7) (zcN (V.comp v 0) 8) (zcN (V.comp v 0) 9) (zcN (V.comp v 1) 0) (zcS (V.comp v 1) 1) (zcN (V.comp v 1) 2) (zcN (V.comp v 1) 3)) (fun d w => P d )
theorem v_t2a10L5L14IISL1L1L8IIa4ISII {K : Nat → Nat → Nat → tt2a10L5L14IISL1L1L8IIa4ISII} {P : Nat → Nat → Nat → pt2a10L5L14IISL1L1L8IIa4ISII} {y0 y1 y2 y3 y4 y5 y6 y7 y8 y9 y10 y11 y12 y13} (h : Ev (fun _ k _ => x k) (zO (V.tup [wg0 y0 y1 y2 y3 y4 y5 y6 y7 y8 y9, vF y10 y11 y12 y13]))) (h2 : Ev (fun m k n => K m k n y0 y1 y2 y3 y4 y5 y6 y7 y8 y9 y10 y11 y12 y13) o) : Ev (fun m k n => r_t2a10L5L14IISL1L1L8IIa4ISII (x k) (K m k n) (P m k n)) o := Ev.two h h2 fun _ _ _ e => congrArg (r_t2a10L5L14IISL1L1L8IIa4ISII · _ _) e
abbrev tt2a4ISIIoB := Int → ByteArray → Int → Int → Bool → Option Out
abbrev pt2a4ISIIoB := D → Option Out
def r_t2a4ISIIoB (x : Option Out) (K : tt2a4ISIIoB) (P : pt2a4ISIIoB) := retK [] (Sh.tup [(Sh.agg [Lf.int iK, Lf.str, Lf.int iK, Lf.int iK]), (Sh.one Lf.bool)]) x (fun v w => K (zcN (V.comp v 0) 0) (zcS (V.comp v 0) 1) (zcN (V.comp v 0) 2) (zcN (V.comp v 0) 3) (zcB (V.comp v 1) 0)) (fun d w => P d )
theorem v_t2a4ISIIoB {K : Nat → Nat → Nat → tt2a4ISIIoB} {P : Nat → Nat → Nat → pt2a4ISIIoB} {y0 y1 y2 y3 y4} (h : Ev (fun _ k _ => x k) (zO (V.tup [vF y0 y1 y2 y3, V.one (zb y4)]))) (h2 : Ev (fun m k n => K m k n y0 y1 y2 y3 y4) o) : Ev (fun m k n => r_t2a4ISIIoB (x k) (K m k n) (P m k n)) o := Ev.two h h2 fun _ _ _ e => congrArg (r_t2a4ISIIoB · _ _) e
abbrev tt2a5ISIIIoI := Int → ByteArray → Int → Int → Int → Int → Option Out
abbrev pt2a5ISIIIoI := D → Option Out
def r_t2a5ISIIIoI (x : Option Out) (K : tt2a5ISIIIoI) (P : pt2a5ISIIIoI) := retK [] (Sh.tup [(Sh.agg [Lf.int iK, Lf.str, Lf.int iK, Lf.int iK, Lf.int iK]), (Sh.one (Lf.int iK))]) x (fun v w => K (zcN (V.comp v 0) 0) (zcS (V.comp v 0) 1) (zcN (V.comp v 0) 2) (zcN (V.comp v 0) 3) (zcN (V.comp v 0) 4) (zcN (V.comp v 1) 0)) (fun d w => P d )
theorem v_t2a5ISIIIoI {K : Nat → Nat → Nat → tt2a5ISIIIoI} {P : Nat → Nat → Nat → pt2a5ISIIIoI} {y0 y1 y2 y3 y4 y5} (h : Ev (fun _ k _ => x k) (zO (V.tup [vK y0 y1 y2 y3 y4, V.one (zi y5)]))) (h2 : Ev (fun m k n => K m k n y0 y1 y2 y3 y4 y5) o) : Ev (fun m k n => r_t2a5ISIIIoI (x k) (K m k n) (P m k n)) o := Ev.two h h2 fun _ _ _ e => congrArg (r_t2a5ISIIIoI · _ _) e
abbrev tt2a8IISL1L1L8IIoB := Int → Int → ByteArray → LL → LL → LL → Int → Int → Bool → Option Out
abbrev pt2a8IISL1L1L8IIoB := D → Option Out
def r_t2a8IISL1L1L8IIoB (x : Option Out) (K : tt2a8IISL1L1L8IIoB) (P : pt2a8IISL1L1L8IIoB) := retK [] (Sh.tup [(Sh.agg [Lf.int iK, Lf.int iK, Lf.str, Lf.lst 1, Lf.lst 1, Lf.lst 8, Lf.int iK, Lf.int iK]), (Sh.one Lf.bool)]) x (fun v w => K (zcN (V.comp v 0) 0) (zcN (V.comp v 0) 1) (zcS (V.comp v 0) 2) (zcR (V.comp v 0) 3) (zcR (V.comp v 0) 4) (zcR (V.comp v 0) 5) (zcN (V.comp v 0) 6) (zcN (V.comp v 0) 7) (zcB (V.comp v 1) 0)) (fun d w => P d )
theorem v_t2a8IISL1L1L8IIoB {K : Nat → Nat → Nat → tt2a8IISL1L1L8IIoB} {P : Nat → Nat → Nat → pt2a8IISL1L1L8IIoB} {y0 y1 y2 y3 y4 y5 y6 y7 y8} (h : Ev (fun _ k _ => x k) (zO (V.tup [vE y0 y1 y2 y3 y4 y5 y6 y7, V.one (zb y8)]))) (h2 : Ev (fun m k n => K m k n y0 y1 y2 y3 y4 y5 y6 y7 y8) o) : Ev (fun m k n => r_t2a8IISL1L1L8IIoB (x k) (K m k n) (P m k n)) o := Ev.two h h2 fun _ _ _ e => congrArg (r_t2a8IISL1L1L8IIoB · _ _) e
abbrev tt2oIoB := Int → Bool → Option Out
abbrev pt2oIoB := D → Option Out
def r_t2oIoB (x : Option Out) (K : tt2oIoB) (P : pt2oIoB) := retK [] (Sh.tup [(Sh.one (Lf.int iK)), (Sh.one Lf.bool)]) x (fun v w => K (zcN (V.comp v 0) 0) (zcB (V.comp v 1) 0)) (fun d w => P d )
theorem v_t2oIoB {K : Nat → Nat → Nat → tt2oIoB} {P : Nat → Nat → Nat → pt2oIoB} {y0 y1} (h : Ev (fun _ k _ => x k) (zO (V.tup [V.one (zi y0), V.one (zb y1)]))) (h2 : Ev (fun m k n => K m k n y0 y1) o) : Ev (fun m k n => r_t2oIoB (x k) (K m k n) (P m k n)) o := Ev.two h h2 fun _ _ _ e => congrArg (r_t2oIoB · _ _) e
abbrev tt2oL5a4ISII := LL → Int → ByteArray → Int → Int → Option Out
abbrev pt2oL5a4ISII := D → Option Out
def r_t2oL5a4ISII (x : Option Out) (K : tt2oL5a4ISII) (P : pt2oL5a4ISII) := retK [] (Sh.tup [(Sh.one (Lf.lst 5)), (Sh.agg [Lf.int iK, Lf.str, Lf.int iK, Lf.int iK])]) x (fun v w => K (zcR (V.comp v 0) 0) (zcN (V.comp v 1) 0) (zcS (V.comp v 1) 1) (zcN (V.comp v 1) 2) (zcN (V.comp v 1) 3)) (fun d w => P d )
theorem v_t2oL5a4ISII {K : Nat → Nat → Nat → tt2oL5a4ISII} {P : Nat → Nat → Nat → pt2oL5a4ISII} {y0 y1 y2 y3 y4} (h : Ev (fun _ k _ => x k) (zO (V.tup [V.one (zl 5 y0), vF y1 y2 y3 y4]))) (h2 : Ev (fun m k n => K m k n y0 y1 y2 y3 y4) o) : Ev (fun m k n => r_t2oL5a4ISII (x k) (K m k n) (P m k n)) o := Ev.two h h2 fun _ _ _ e => congrArg (r_t2oL5a4ISII · _ _) e
end
end Go.Proofs.YtbmcafehpgimfaaGreat.Ps
