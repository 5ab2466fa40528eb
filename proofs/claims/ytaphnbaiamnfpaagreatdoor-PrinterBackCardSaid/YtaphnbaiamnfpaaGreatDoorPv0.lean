/- What comes back from a call, taken apart. Printed by pack4.py. -/
import Derived.Test.YtaphnbaiamnfpaaGreatDoorQw3
import Derived.Test.YtaphnbaiamnfpaaGreatDoorPsV
namespace Go.Proofs.YtaphnbaiamnfpaaGreatDoor.Ps
set_option maxHeartbeats 0
set_option maxRecDepth 100000
set_option linter.unusedVariables false
open Go Go.RowKit
open Go.IntKind renaming i64 -> iK, u8 -> uK
abbrev LL:Type:=List (List D)
abbrev zi (n:Int):X:=X.d (D.int iK n)
abbrev zs (s:ByteArray):X:=X.d (D.str s)
abbrev zl (k:Nat) (r:LL):X:=X.d (D.list k r)
abbrev zb (b:Bool):X:=X.d (D.bool b)
abbrev zP:V:=V.one (X.ptr 0 0)
abbrev zA:List Lf:=[Lf.lst 5,Lf.int iK]
abbrev zB:List Lf:=[Lf.lst 5,Lf.int iK,Lf.bool]
abbrev zE:List Lf:=[Lf.int iK,Lf.int iK,Lf.str,Lf.lst 1,Lf.lst 1,Lf.lst 8,Lf.int iK,Lf.int iK]
abbrev zK:List Lf:=[Lf.int iK,Lf.str,Lf.int iK,Lf.int iK,Lf.int iK]
abbrev zF:List Lf:=[Lf.int iK,Lf.str,Lf.int iK,Lf.int iK]
abbrev oA (r:LL) (i:Int):List (List X):=[[zl 5 r,zi i]]
abbrev oB (r:LL) (i:Int) (b:Bool):List (List X):=[[zl 5 r,zi i,zb b]]
abbrev rA (r:LL) (i:Int):List (List Lf × List X):=[(zA,[zl 5 r,zi i])]
abbrev rB (r:LL) (i:Int) (b:Bool):List (List Lf × List X):=[(zB,[zl 5 r,zi i,zb b])]
abbrev kA (r:LL) (i:Int):Blk:=Blk.mk zA [zl 5 r,zi i]
abbrev kB (r:LL) (i:Int) (b:Bool):Blk:=Blk.mk zB [zl 5 r,zi i,zb b]
abbrev vE (k n:Int) (s:ByteArray) (a b c:LL) (x y:Int):V:=V.agg [zi k,zi n,zs s,zl 1 a,zl 1 b,zl 8 c,zi x,zi y]
abbrev vK (k:Int) (s:ByteArray) (n x y:Int):V:=V.agg [zi k,zs s,zi n,zi x,zi y]
abbrev vF (k:Int) (s:ByteArray) (x y:Int):V:=V.agg [zi k,zs s,zi x,zi y]
abbrev dE (k n:Int) (s:ByteArray) (a b c:LL) (x y:Int):List D:=[D.int iK k,D.int iK n,D.str s,D.list 1 a,D.list 1 b,D.list 8 c,D.int iK x,D.int iK y]
abbrev hA (d:D) (r:LL) (i:Int):Option Out:=some (Out.mk false V.junk d (oA r i) 0)
abbrev hB (d:D) (r:LL) (i:Int) (b:Bool):Option Out:=some (Out.mk false V.junk d (oB r i b) 0)
abbrev h0 (d:D):Option Out:=some (Out.mk false V.junk d [] 0)
abbrev zcN (v:V) (i:Nat):Int:=D.num (X.dd (X.cell v i))
abbrev zcR (v:V) (i:Nat):LL:=D.rows (X.dd (X.cell v i))
abbrev zcS (v:V) (i:Nat):ByteArray:=D.bytes (X.dd (X.cell v i))
abbrev zcB (v:V) (i:Nat):Bool:=D.bit (X.dd (X.cell v i))
abbrev zeX (r:List (List X)) (i j:Nat):D:=X.dd (List.getD (List.getD r i []) j (X.d D.junk))
abbrev zeN (r:List (List X)) (i j:Nat):Int:=D.num (zeX r i j)
abbrev zeR (r:List (List X)) (i j:Nat):LL:=D.rows (zeX r i j)
abbrev zeS (r:List (List X)) (i j:Nat):ByteArray:=D.bytes (zeX r i j)
abbrev zeB (r:List (List X)) (i j:Nat):Bool:=D.bit (zeX r i j)
abbrev SM:Type:=Bool->SemL
abbrev SC:Type:=SExit->St->Option Out
@[reducible] def fK (Γ:SM) (k:Nat) (s:SFunc) (p:Nat):SC:=finK (Γ true) rc false (shp k) (SFunc.results s) p
@[reducible] noncomputable def jF (Γ:SM) (n:Nat) (c:SCode) (s:St) (K:SC):Option Out:=Jn (Γ false) shp n c s K
@[reducible] noncomputable def jN (Γ:SM) (n:Nat) (c:SCode) (v:List (Nat × V)) (b:List (Nat × Blk)) (l:List Nat) (x y z:Nat) (K:SC):Option Out:=Jn (Γ false) shp n c (St.mk v b l x y z []) K
@[reducible] def kL (Γ:SM) (n:Nat) (l:List Nat) (c:SCode) (K:SC):SC:=kup (kdH (Γ false) shp n) l c K
@[reducible] def lK (Γ:SM) (n:Nat) (m:List Nat) (c:SCode) (v:List (Nat × V)) (b:List (Nat × Blk)) (l:List Nat) (x y z:Nat) (K:SC):Option Out:=kdH (Γ false) shp n m c (St.mk v b l x y z []) K
@[reducible] def rF (Γ:SM) (k:Nat) (s:SFunc) (n:Nat) (a:List V) (r:List (List Lf × List X)):Option Out:=runF Γ shp rc false (shp k) s n a r
abbrev oR (v:V):Option Out:=some (Out.mk true v D.junk [] 0)
abbrev oS (v:V) (r:List (List X)):Option Out:=some (Out.mk true v D.junk r 0)
abbrev zO (v:V):Out:=Out.mk true v D.junk [] 0
abbrev wg0 (a0:Int) (a1:LL):V:=V.agg [zi a0,zl 2 a1]
abbrev wg1 (a0:LL) (a1:LL) (a2:Int) (a3:Int) (a4:ByteArray) (a5:LL) (a6:LL) (a7:LL) (a8:Int) (a9:Int):V:=V.agg [zl 5 a0,zl 14 a1,zi a2,zi a3,zs a4,zl 1 a5,zl 1 a6,zl 8 a7,zi a8,zi a9]
abbrev wg2 (a0:ByteArray) (a1:LL) (a2:Int) (a3:LL) (a4:Int) (a5:Int) (a6:ByteArray) (a7:LL) (a8:LL) (a9:LL) (a10:Int) (a11:Int) (a12:Int) (a13:Int):V:=V.agg [zs a0,zl 5 a1,zi a2,zl 2 a3,zi a4,zi a5,zs a6,zl 1 a7,zl 1 a8,zl 8 a9,zi a10,zi a11,zi a12,zi a13]
abbrev wm3 (a0:Int) (a1:LL):Blk:=Blk.mk [Lf.int iK,Lf.lst 2] [zi a0,zl 2 a1]
abbrev wm4 (a0:LL) (a1:LL) (a2:Int) (a3:Int) (a4:ByteArray) (a5:LL) (a6:LL) (a7:LL) (a8:Int) (a9:Int):Blk:=Blk.mk [Lf.lst 5,Lf.lst 14,Lf.int iK,Lf.int iK,Lf.str,Lf.lst 1,Lf.lst 1,Lf.lst 8,Lf.int iK,Lf.int iK] [zl 5 a0,zl 14 a1,zi a2,zi a3,zs a4,zl 1 a5,zl 1 a6,zl 8 a7,zi a8,zi a9]
abbrev wm5 (a0:Int) (a1:Int) (a2:ByteArray) (a3:LL) (a4:LL) (a5:LL) (a6:Int) (a7:Int):Blk:=Blk.mk zE [zi a0,zi a1,zs a2,zl 1 a3,zl 1 a4,zl 8 a5,zi a6,zi a7]
abbrev wm6 (a0:Int) (a1:ByteArray) (a2:Int) (a3:Int):Blk:=Blk.mk zF [zi a0,zs a1,zi a2,zi a3]
abbrev wm7 (a0:Int) (a1:ByteArray) (a2:Int) (a3:Int) (a4:Int):Blk:=Blk.mk zK [zi a0,zs a1,zi a2,zi a3,zi a4]
theorem kae {f:FuncId} {fn:SFunc} {args:List V} {rows:List (List Lf × List X)} {k:Nat} (h:kk4 f=some fn) (hn:Nat.beq args.length fn.nparams=true) :
    Ak (k+1) false f args rows=runF (Ak k) shp rc false (shp f) fn k args rows:=by
  have e:Ak (k+1) false f args rows=(match kk4 f with
    | some fn=>cond (Nat.beq args.length fn.nparams) (runF (Ak k) shp rc false (shp f) fn k args rows) none
    | none=>cond false none (libV (Ak k false) f args rows)):=rfl
  rw [e,h]
  show cond _ _ _=_
  rw [hn]
  rfl
theorem kpK {f:FuncId} {fn:SFunc} {args:List V} {rows:List (List Lf × List X)} {k:Nat} (h:kk4 f=some fn) (hn:Nat.beq args.length fn.nparams=true) :
    Ak (k+1) true f args rows=runF (Ak k) shp rc true (shp f) fn k args rows:=by
  have e:Ak (k+1) true f args rows=(match kk4 f with
    | some fn=>cond (Nat.beq args.length fn.nparams) (runF (Ak k) shp rc true (shp f) fn k args rows) none
    | none=>cond true none (libV (Ak k false) f args rows)):=rfl
  rw [e,h]
  show cond _ _ _=_
  rw [hn]
  rfl
/-- From some fuel on, whatever the fuels are. -/
def Ev (F:Nat->Nat->Nat->Option Out) (o:Out):Prop:=∃ K,∀ m k n,K<=m->K<=k->K<=n->F m k n=some o
abbrev Cal (f:FuncId) (args:List V) (rows:List (List Lf × List X)) (o:Out):Prop:=Ev (fun _ k _=>Ak k false f args rows) o
theorem Ev.two {F G H:Nat->Nat->Nat->Option Out} {o o':Out} (h:Ev F o) (h2:Ev G o') (hh:∀ m k n,F m k n=some o->H m k n=G m k n):Ev H o':=by
  obtain ⟨K,hK⟩:=h
  obtain ⟨L,hL⟩:=h2
  exact ⟨K+L,fun m k n h1 h2 h3=>(hh m k n (hK m k n (by omega) (by omega) (by omega))).trans (hL m k n (by omega) (by omega) (by omega))⟩
theorem Ev.step {F:Nat->Nat->Nat->Option Out} {o:Out} (h:Ev (fun m k n=>F (m+1) k n) o):Ev F o:=by
  obtain ⟨K,hK⟩:=h
  refine ⟨K+1,fun m k n h1 h2 h3=>?_⟩
  obtain ⟨m,rfl⟩:∃ m',m=m'+1:=⟨m - 1,by omega⟩
  exact hK m k n (by omega) (by omega) (by omega)
theorem Ev.diag {F:Nat->Nat->Nat->Option Out} {o:Out} (h:Ev F o):Ev (fun m k n=>F n k n) o:=by
  obtain ⟨K,hK⟩:=h
  exact ⟨K,fun m k n h1 h2 h3=>hK n k n h3 h2 h3⟩
theorem Ev.call {f:FuncId} {args:List V} {rows:List (List Lf × List X)} {E:(Bool->SemL)->Nat->Option Out} {o:Out} (he:∀ k,Ak (k+1) false f args rows=E (Ak k) k) (h:Ev (fun _ k n=>E (Ak k) n) o):Cal f args rows o:=by
  obtain ⟨K,hK⟩:=h
  refine ⟨K+1,fun m k n h1 h2 h3=>?_⟩
  obtain ⟨k,rfl⟩:∃ k',k=k'+1:=⟨k - 1,by omega⟩
  exact (he k).trans (hK k k k (by omega) (by omega) (by omega))
theorem Ev.dcall {f:FuncId} {args:List V} {rows:List (List Lf × List X)} {E:(Bool->SemL)->Nat->Option Out} {o:Out} (he:∀ k,Ak (k+1) true f args rows=E (Ak k) k) (h:Ev (fun _ k n=>E (Ak k) n) o):Ev (fun _ k _=>Ak k true f args rows) o:=by
  obtain ⟨K,hK⟩:=h
  refine ⟨K+1,fun m k n h1 h2 h3=>?_⟩
  obtain ⟨k,rfl⟩:∃ k',k=k'+1:=⟨k - 1,by omega⟩
  exact (he k).trans (hK k k k (by omega) (by omega) (by omega))
theorem Ev.ret (o:Out):Ev (fun _ _ _=>some o) o:=⟨0,fun _ _ _ _ _ _=>rfl⟩
theorem Ev.of {F:Nat->Nat->Nat->Option Out} {o:Out} (h:∀ m k n,F m k n=some o):Ev F o:=⟨0,fun m k n _ _ _=>h m k n⟩
theorem Ev.eq {F G:Nat->Nat->Nat->Option Out} {o:Out} (h:Ev G o) (e:∀ m k n,F m k n=G m k n):Ev F o:=by
  obtain ⟨K,hK⟩:=h
  exact ⟨K,fun m k n h1 h2 h3=>(e m k n).trans (hK m k n h1 h2 h3)⟩
theorem Ev.yes {c:Bool} {F G:Nat->Nat->Nat->Option Out} {o:Out} (hc:c=true) (h:Ev F o):Ev (fun m k n=>bif c then F m k n else G m k n) o:=by subst hc;exact h
theorem Ev.no {c:Bool} {F G:Nat->Nat->Nat->Option Out} {o:Out} (hc:c=false) (h:Ev G o):Ev (fun m k n=>bif c then F m k n else G m k n) o:=by subst hc;exact h
section
variable {x:Nat->Option Out} {o:Out} {d:D}
abbrev kbi:=LL->LL->Int->Int->ByteArray->LL->LL->LL->Int->Int->LL->Int->Option Out
abbrev kbj:=D->LL->Int->Option Out
def kaJ (x:Option Out) (K:kbi) (P:kbj):=retK false [[Lf.lst 5,Lf.int iK]] (Sh.agg [Lf.lst 5,Lf.lst 14,Lf.int iK,Lf.int iK,Lf.str,Lf.lst 1,Lf.lst 1,Lf.lst 8,Lf.int iK,Lf.int iK]) x (fun v w=>K (zcR v 0) (zcR v 1) (zcN v 2) (zcN v 3) (zcS v 4) (zcR v 5) (zcR v 6) (zcR v 7) (zcN v 8) (zcN v 9) (zeR w 0 0) (zeN w 0 1)) (fun d w=>P d (zeR w 0 0) (zeN w 0 1))
theorem kc3 {K:Nat->Nat->Nat->kbi} {P:Nat->Nat->Nat->kbj} {y0 y1 y2 y3 y4 y5 y6 y7 y8 y9 y10 y11} (h:Ev (fun _ k _=>x k) (Out.mk true (wg1 y0 y1 y2 y3 y4 y5 y6 y7 y8 y9) D.junk (oA y10 y11) 0)) (h2:Ev (fun m k n=>K m k n y0 y1 y2 y3 y4 y5 y6 y7 y8 y9 y10 y11) o):Ev (fun m k n=>kaJ (x k) (K m k n) (P m k n)) o:=Ev.two h h2 fun _ _ _ e=>congrArg (kaJ · _ _) e
theorem kc4 {K:Nat->Nat->Nat->kbi} {P:Nat->Nat->Nat->kbj} {y10 y11} (h:Ev (fun _ k _=>x k) (Out.mk false V.junk d (oA y10 y11) 0)) (h2:Ev (fun m k n=>P m k n d y10 y11) o):Ev (fun m k n=>kaJ (x k) (K m k n) (P m k n)) o:=Ev.two h h2 fun _ _ _ e=>congrArg (kaJ · _ _) e
abbrev ka4:=ByteArray->LL->Int->LL->Int->Int->ByteArray->LL->LL->LL->Int->Int->Int->Int->LL->Int->Option Out
abbrev ka5:=D->LL->Int->Option Out
def kao (x:Option Out) (K:ka4) (P:ka5):=retK false [[Lf.lst 5,Lf.int iK]] (Sh.agg [Lf.str,Lf.lst 5,Lf.int iK,Lf.lst 2,Lf.int iK,Lf.int iK,Lf.str,Lf.lst 1,Lf.lst 1,Lf.lst 8,Lf.int iK,Lf.int iK,Lf.int iK,Lf.int iK]) x (fun v w=>K (zcS v 0) (zcR v 1) (zcN v 2) (zcR v 3) (zcN v 4) (zcN v 5) (zcS v 6) (zcR v 7) (zcR v 8) (zcR v 9) (zcN v 10) (zcN v 11) (zcN v 12) (zcN v 13) (zeR w 0 0) (zeN w 0 1)) (fun d w=>P d (zeR w 0 0) (zeN w 0 1))
theorem kch {K:Nat->Nat->Nat->ka4} {P:Nat->Nat->Nat->ka5} {y0 y1 y2 y3 y4 y5 y6 y7 y8 y9 y10 y11 y12 y13 y14 y15} (h:Ev (fun _ k _=>x k) (Out.mk true (wg2 y0 y1 y2 y3 y4 y5 y6 y7 y8 y9 y10 y11 y12 y13) D.junk (oA y14 y15) 0)) (h2:Ev (fun m k n=>K m k n y0 y1 y2 y3 y4 y5 y6 y7 y8 y9 y10 y11 y12 y13 y14 y15) o):Ev (fun m k n=>kao (x k) (K m k n) (P m k n)) o:=Ev.two h h2 fun _ _ _ e=>congrArg (kao · _ _) e
theorem kci {K:Nat->Nat->Nat->ka4} {P:Nat->Nat->Nat->ka5} {y14 y15} (h:Ev (fun _ k _=>x k) (Out.mk false V.junk d (oA y14 y15) 0)) (h2:Ev (fun m k n=>P m k n d y14 y15) o):Ev (fun m k n=>kao (x k) (K m k n) (P m k n)) o:=Ev.two h h2 fun _ _ _ e=>congrArg (kao · _ _) e
abbrev kgj:=Int->LL->LL->Int->Option Out
abbrev kgk:=D->LL->Int->Option Out
def ka0 (x:Option Out) (K:kgj) (P:kgk):=retK false [[Lf.lst 5,Lf.int iK]] (Sh.agg [Lf.int iK,Lf.lst 2]) x (fun v w=>K (zcN v 0) (zcR v 1) (zeR w 0 0) (zeN w 0 1)) (fun d w=>P d (zeR w 0 0) (zeN w 0 1))
theorem kmd {K:Nat->Nat->Nat->kgj} {P:Nat->Nat->Nat->kgk} {y0 y1 y2 y3} (h:Ev (fun _ k _=>x k) (Out.mk true (wg0 y0 y1) D.junk (oA y2 y3) 0)) (h2:Ev (fun m k n=>K m k n y0 y1 y2 y3) o):Ev (fun m k n=>ka0 (x k) (K m k n) (P m k n)) o:=Ev.two h h2 fun _ _ _ e=>congrArg (ka0 · _ _) e
theorem kme {K:Nat->Nat->Nat->kgj} {P:Nat->Nat->Nat->kgk} {y2 y3} (h:Ev (fun _ k _=>x k) (Out.mk false V.junk d (oA y2 y3) 0)) (h2:Ev (fun m k n=>P m k n d y2 y3) o):Ev (fun m k n=>ka0 (x k) (K m k n) (P m k n)) o:=Ev.two h h2 fun _ _ _ e=>congrArg (ka0 · _ _) e
abbrev ksa:=Int->ByteArray->Int->Int->Option Out
abbrev ksb:=D->Option Out
def kbM (x:Option Out) (K:ksa) (P:ksb):=retK false [] (Sh.agg [Lf.int iK,Lf.str,Lf.int iK,Lf.int iK]) x (fun v w=>K (zcN v 0) (zcS v 1) (zcN v 2) (zcN v 3)) (fun d w=>P d )
theorem kuY (y0:Int) (y1:ByteArray) (y2 y3:Int) (K:Int->ByteArray->Int->Int->Option Out) (P:D->Option Out):kbM (oR (vF y0 y1 y2 y3)) K P=K y0 y1 y2 y3:=rfl
theorem kbN {K:Nat->Nat->Nat->ksa} {P:Nat->Nat->Nat->ksb} {y0 y1 y2 y3} (h:Ev (fun _ k _=>x k) (Out.mk true (vF y0 y1 y2 y3) D.junk [] 0)) (h2:Ev (fun m k n=>K m k n y0 y1 y2 y3) o):Ev (fun m k n=>kbM (x k) (K m k n) (P m k n)) o:=Ev.two h h2 fun _ _ _ e=>congrArg (kbM · _ _) e
abbrev kcD:=Int->ByteArray->Int->Int->Int->Int->ByteArray->LL->LL->LL->Int->Int->Option Out
abbrev kcE:=D->Int->Int->ByteArray->LL->LL->LL->Int->Int->Option Out
def kbI (x:Option Out) (K:kcD) (P:kcE):=retK false [[Lf.int iK,Lf.int iK,Lf.str,Lf.lst 1,Lf.lst 1,Lf.lst 8,Lf.int iK,Lf.int iK]] (Sh.agg [Lf.int iK,Lf.str,Lf.int iK,Lf.int iK]) x (fun v w=>K (zcN v 0) (zcS v 1) (zcN v 2) (zcN v 3) (zeN w 0 0) (zeN w 0 1) (zeS w 0 2) (zeR w 0 3) (zeR w 0 4) (zeR w 0 5) (zeN w 0 6) (zeN w 0 7)) (fun d w=>P d (zeN w 0 0) (zeN w 0 1) (zeS w 0 2) (zeR w 0 3) (zeR w 0 4) (zeR w 0 5) (zeN w 0 6) (zeN w 0 7))
theorem kbe {K:Nat->Nat->Nat->kcD} {P:Nat->Nat->Nat->kcE} {y0 y1 y2 y3 y4 y5 y6 y7 y8 y9 y10 y11} (h:Ev (fun _ k _=>x k) (Out.mk true (vF y0 y1 y2 y3) D.junk [[zi y4,zi y5,zs y6,zl 1 y7,zl 1 y8,zl 8 y9,zi y10,zi y11]] 0)) (h2:Ev (fun m k n=>K m k n y0 y1 y2 y3 y4 y5 y6 y7 y8 y9 y10 y11) o):Ev (fun m k n=>kbI (x k) (K m k n) (P m k n)) o:=Ev.two h h2 fun _ _ _ e=>congrArg (kbI · _ _) e
abbrev kbQ:=Int->ByteArray->Int->Int->LL->LL->Int->Int->ByteArray->LL->LL->LL->Int->Int->Option Out
abbrev kbR:=D->LL->LL->Int->Int->ByteArray->LL->LL->LL->Int->Int->Option Out
def kbb (x:Option Out) (K:kbQ) (P:kbR):=retK false [[Lf.lst 5,Lf.lst 14,Lf.int iK,Lf.int iK,Lf.str,Lf.lst 1,Lf.lst 1,Lf.lst 8,Lf.int iK,Lf.int iK]] (Sh.agg [Lf.int iK,Lf.str,Lf.int iK,Lf.int iK]) x (fun v w=>K (zcN v 0) (zcS v 1) (zcN v 2) (zcN v 3) (zeR w 0 0) (zeR w 0 1) (zeN w 0 2) (zeN w 0 3) (zeS w 0 4) (zeR w 0 5) (zeR w 0 6) (zeR w 0 7) (zeN w 0 8) (zeN w 0 9)) (fun d w=>P d (zeR w 0 0) (zeR w 0 1) (zeN w 0 2) (zeN w 0 3) (zeS w 0 4) (zeR w 0 5) (zeR w 0 6) (zeR w 0 7) (zeN w 0 8) (zeN w 0 9))
theorem kaU {K:Nat->Nat->Nat->kbQ} {P:Nat->Nat->Nat->kbR} {y0 y1 y2 y3 y4 y5 y6 y7 y8 y9 y10 y11 y12 y13} (h:Ev (fun _ k _=>x k) (Out.mk true (vF y0 y1 y2 y3) D.junk [[zl 5 y4,zl 14 y5,zi y6,zi y7,zs y8,zl 1 y9,zl 1 y10,zl 8 y11,zi y12,zi y13]] 0)) (h2:Ev (fun m k n=>K m k n y0 y1 y2 y3 y4 y5 y6 y7 y8 y9 y10 y11 y12 y13) o):Ev (fun m k n=>kbb (x k) (K m k n) (P m k n)) o:=Ev.two h h2 fun _ _ _ e=>congrArg (kbb · _ _) e
abbrev kd3:=Int->ByteArray->Int->Int->Int->LL->Int->Option Out
abbrev kd4:=D->LL->Int->Option Out
def kal (x:Option Out) (K:kd3) (P:kd4):=retK false [[Lf.lst 5,Lf.int iK]] (Sh.agg [Lf.int iK,Lf.str,Lf.int iK,Lf.int iK,Lf.int iK]) x (fun v w=>K (zcN v 0) (zcS v 1) (zcN v 2) (zcN v 3) (zcN v 4) (zeR w 0 0) (zeN w 0 1)) (fun d w=>P d (zeR w 0 0) (zeN w 0 1))
theorem kaF {K:Nat->Nat->Nat->kd3} {P:Nat->Nat->Nat->kd4} {y0 y1 y2 y3 y4 y5 y6} (h:Ev (fun _ k _=>x k) (Out.mk true (vK y0 y1 y2 y3 y4) D.junk (oA y5 y6) 0)) (h2:Ev (fun m k n=>K m k n y0 y1 y2 y3 y4 y5 y6) o):Ev (fun m k n=>kal (x k) (K m k n) (P m k n)) o:=Ev.two h h2 fun _ _ _ e=>congrArg (kal · _ _) e
theorem kjO {K:Nat->Nat->Nat->kd3} {P:Nat->Nat->Nat->kd4} {y5 y6} (h:Ev (fun _ k _=>x k) (Out.mk false V.junk d (oA y5 y6) 0)) (h2:Ev (fun m k n=>P m k n d y5 y6) o):Ev (fun m k n=>kal (x k) (K m k n) (P m k n)) o:=Ev.two h h2 fun _ _ _ e=>congrArg (kal · _ _) e
abbrev kdr:=ByteArray->Int->LL->Int->Int->LL->Int->Option Out
abbrev kds:=D->LL->Int->Option Out
def kaV (x:Option Out) (K:kdr) (P:kds):=retK false [[Lf.lst 5,Lf.int iK]] (Sh.agg [Lf.str,Lf.int iK,Lf.lst 2,Lf.int iK,Lf.int iK]) x (fun v w=>K (zcS v 0) (zcN v 1) (zcR v 2) (zcN v 3) (zcN v 4) (zeR w 0 0) (zeN w 0 1)) (fun d w=>P d (zeR w 0 0) (zeN w 0 1))
theorem kii {K:Nat->Nat->Nat->kdr} {P:Nat->Nat->Nat->kds} {y0 y1 y2 y3 y4 y5 y6} (h:Ev (fun _ k _=>x k) (Out.mk true (V.agg [zs y0,zi y1,zl 2 y2,zi y3,zi y4]) D.junk (oA y5 y6) 0)) (h2:Ev (fun m k n=>K m k n y0 y1 y2 y3 y4 y5 y6) o):Ev (fun m k n=>kaV (x k) (K m k n) (P m k n)) o:=Ev.two h h2 fun _ _ _ e=>congrArg (kaV · _ _) e
theorem kij {K:Nat->Nat->Nat->kdr} {P:Nat->Nat->Nat->kds} {y5 y6} (h:Ev (fun _ k _=>x k) (Out.mk false V.junk d (oA y5 y6) 0)) (h2:Ev (fun m k n=>P m k n d y5 y6) o):Ev (fun m k n=>kaV (x k) (K m k n) (P m k n)) o:=Ev.two h h2 fun _ _ _ e=>congrArg (kaV · _ _) e
abbrev kbW:=Int->Int->ByteArray->LL->LL->LL->Int->Int->LL->Int->Option Out
abbrev kbX:=D->LL->Int->Option Out
def kad (x:Option Out) (K:kbW) (P:kbX):=retK false [[Lf.lst 5,Lf.int iK]] (Sh.agg [Lf.int iK,Lf.int iK,Lf.str,Lf.lst 1,Lf.lst 1,Lf.lst 8,Lf.int iK,Lf.int iK]) x (fun v w=>K (zcN v 0) (zcN v 1) (zcS v 2) (zcR v 3) (zcR v 4) (zcR v 5) (zcN v 6) (zcN v 7) (zeR w 0 0) (zeN w 0 1)) (fun d w=>P d (zeR w 0 0) (zeN w 0 1))
theorem kcF {K:Nat->Nat->Nat->kbW} {P:Nat->Nat->Nat->kbX} {y0 y1 y2 y3 y4 y5 y6 y7 y8 y9} (h:Ev (fun _ k _=>x k) (Out.mk true (vE y0 y1 y2 y3 y4 y5 y6 y7) D.junk (oA y8 y9) 0)) (h2:Ev (fun m k n=>K m k n y0 y1 y2 y3 y4 y5 y6 y7 y8 y9) o):Ev (fun m k n=>kad (x k) (K m k n) (P m k n)) o:=Ev.two h h2 fun _ _ _ e=>congrArg (kad · _ _) e
theorem kcG {K:Nat->Nat->Nat->kbW} {P:Nat->Nat->Nat->kbX} {y8 y9} (h:Ev (fun _ k _=>x k) (Out.mk false V.junk d (oA y8 y9) 0)) (h2:Ev (fun m k n=>P m k n d y8 y9) o):Ev (fun m k n=>kad (x k) (K m k n) (P m k n)) o:=Ev.two h h2 fun _ _ _ e=>congrArg (kad · _ _) e
abbrev keI:=Int->Int->ByteArray->Int->Int->Option Out
abbrev keJ:=D->Option Out
def kan (x:Option Out) (K:keI) (P:keJ):=retK false [] (Sh.agg [Lf.int iK,Lf.int iK,Lf.str,(Lf.nil 1),(Lf.nil 1),(Lf.nil 8),Lf.int iK,Lf.int iK]) x (fun v w=>K (zcN v 0) (zcN v 1) (zcS v 2) (zcN v 6) (zcN v 7)) (fun d w=>P d )
theorem khY {K:Nat->Nat->Nat->keI} {P:Nat->Nat->Nat->keJ} {y0 y1 y2 y3 y4} (h:Ev (fun _ k _=>x k) (zO (V.agg [zi y0,zi y1,zs y2,X.nilL 1,X.nilL 1,X.nilL 8,zi y3,zi y4]))) (h2:Ev (fun m k n=>K m k n y0 y1 y2 y3 y4) o):Ev (fun m k n=>kan (x k) (K m k n) (P m k n)) o:=Ev.two h h2 fun _ _ _ e=>congrArg (kan · _ _) e
abbrev kn4:=LL->Option Out
abbrev kn5:=D->LL->Option Out
def kab (x:Option Out) (K:kn4) (P:kn5):=retK false [[Lf.slf,(Lf.own 5 1)]] Sh.none x (fun v w=>K (X.orows (List.getD (List.getD w 0 []) 1 (X.d D.junk)))) (fun d w=>P d (X.orows (List.getD (List.getD w 0 []) 1 (X.d D.junk))))
theorem kbE {K:Nat->Nat->Nat->kn4} {P:Nat->Nat->Nat->kn5} {y0 vv} (h:Ev (fun _ k _=>x k) (Out.mk true (vv) D.junk [[X.slf 0,X.own 0 5 1 y0]] 1)) (h2:Ev (fun m k n=>K m k n y0) o):Ev (fun m k n=>kab (x k) (K m k n) (P m k n)) o:=Ev.two h h2 fun _ _ _ e=>congrArg (kab · _ _) e
abbrev ksc:=LL->Int->Option Out
abbrev ksd:=D->LL->Int->Option Out
def kaq (x:Option Out) (K:ksc) (P:ksd):=retK false [[Lf.lst 5,Lf.int iK]] Sh.none x (fun v w=>K (zeR w 0 0) (zeN w 0 1)) (fun d w=>P d (zeR w 0 0) (zeN w 0 1))
theorem kBr {K:Nat->Nat->Nat->ksc} {P:Nat->Nat->Nat->ksd} {y0 y1 vv} (h:Ev (fun _ k _=>x k) (Out.mk true (vv) D.junk (oA y0 y1) 0)) (h2:Ev (fun m k n=>K m k n y0 y1) o):Ev (fun m k n=>kaq (x k) (K m k n) (P m k n)) o:=Ev.two h h2 fun _ _ _ e=>congrArg (kaq · _ _) e
theorem kgl {K:Nat->Nat->Nat->ksc} {P:Nat->Nat->Nat->ksd} {y0 y1} (h:Ev (fun _ k _=>x k) (Out.mk false V.junk d (oA y0 y1) 0)) (h2:Ev (fun m k n=>P m k n d y0 y1) o):Ev (fun m k n=>kaq (x k) (K m k n) (P m k n)) o:=Ev.two h h2 fun _ _ _ e=>congrArg (kaq · _ _) e
abbrev kbY:=LL->Int->Int->Int->ByteArray->LL->LL->LL->Int->Int->Option Out
abbrev kbZ:=D->LL->Int->Int->Int->ByteArray->LL->LL->LL->Int->Int->Option Out
def ka6 (x:Option Out) (K:kbY) (P:kbZ):=retK false [[Lf.lst 5,Lf.int iK],[Lf.int iK,Lf.int iK,Lf.str,Lf.lst 1,Lf.lst 1,Lf.lst 8,Lf.int iK,Lf.int iK]] Sh.none x (fun v w=>K (zeR w 0 0) (zeN w 0 1) (zeN w 1 0) (zeN w 1 1) (zeS w 1 2) (zeR w 1 3) (zeR w 1 4) (zeR w 1 5) (zeN w 1 6) (zeN w 1 7)) (fun d w=>P d (zeR w 0 0) (zeN w 0 1) (zeN w 1 0) (zeN w 1 1) (zeS w 1 2) (zeR w 1 3) (zeR w 1 4) (zeR w 1 5) (zeN w 1 6) (zeN w 1 7))
theorem kcH {K:Nat->Nat->Nat->kbY} {P:Nat->Nat->Nat->kbZ} {y0 y1 y2 y3 y4 y5 y6 y7 y8 y9 vv} (h:Ev (fun _ k _=>x k) (Out.mk true (vv) D.junk [[zl 5 y0,zi y1],[zi y2,zi y3,zs y4,zl 1 y5,zl 1 y6,zl 8 y7,zi y8,zi y9]] 0)) (h2:Ev (fun m k n=>K m k n y0 y1 y2 y3 y4 y5 y6 y7 y8 y9) o):Ev (fun m k n=>ka6 (x k) (K m k n) (P m k n)) o:=Ev.two h h2 fun _ _ _ e=>congrArg (ka6 · _ _) e
theorem ke3 {K:Nat->Nat->Nat->kbY} {P:Nat->Nat->Nat->kbZ} {y0 y1 y2 y3 y4 y5 y6 y7 y8 y9} (h:Ev (fun _ k _=>x k) (Out.mk false V.junk d [[zl 5 y0,zi y1],[zi y2,zi y3,zs y4,zl 1 y5,zl 1 y6,zl 8 y7,zi y8,zi y9]] 0)) (h2:Ev (fun m k n=>P m k n d y0 y1 y2 y3 y4 y5 y6 y7 y8 y9) o):Ev (fun m k n=>ka6 (x k) (K m k n) (P m k n)) o:=Ev.two h h2 fun _ _ _ e=>congrArg (ka6 · _ _) e
abbrev kbn:=LL->Int->LL->LL->Int->Int->ByteArray->LL->LL->LL->Int->Int->Option Out
abbrev kbo:=D->LL->Int->LL->LL->Int->Int->ByteArray->LL->LL->LL->Int->Int->Option Out
def kaL (x:Option Out) (K:kbn) (P:kbo):=retK false [[Lf.lst 5,Lf.int iK],[Lf.lst 5,Lf.lst 14,Lf.int iK,Lf.int iK,Lf.str,Lf.lst 1,Lf.lst 1,Lf.lst 8,Lf.int iK,Lf.int iK]] Sh.none x (fun v w=>K (zeR w 0 0) (zeN w 0 1) (zeR w 1 0) (zeR w 1 1) (zeN w 1 2) (zeN w 1 3) (zeS w 1 4) (zeR w 1 5) (zeR w 1 6) (zeR w 1 7) (zeN w 1 8) (zeN w 1 9)) (fun d w=>P d (zeR w 0 0) (zeN w 0 1) (zeR w 1 0) (zeR w 1 1) (zeN w 1 2) (zeN w 1 3) (zeS w 1 4) (zeR w 1 5) (zeR w 1 6) (zeR w 1 7) (zeN w 1 8) (zeN w 1 9))
theorem kbS {K:Nat->Nat->Nat->kbn} {P:Nat->Nat->Nat->kbo} {y0 y1 y2 y3 y4 y5 y6 y7 y8 y9 y10 y11 vv} (h:Ev (fun _ k _=>x k) (Out.mk true (vv) D.junk [[zl 5 y0,zi y1],[zl 5 y2,zl 14 y3,zi y4,zi y5,zs y6,zl 1 y7,zl 1 y8,zl 8 y9,zi y10,zi y11]] 0)) (h2:Ev (fun m k n=>K m k n y0 y1 y2 y3 y4 y5 y6 y7 y8 y9 y10 y11) o):Ev (fun m k n=>kaL (x k) (K m k n) (P m k n)) o:=Ev.two h h2 fun _ _ _ e=>congrArg (kaL · _ _) e
theorem kdd {K:Nat->Nat->Nat->kbn} {P:Nat->Nat->Nat->kbo} {y0 y1 y2 y3 y4 y5 y6 y7 y8 y9 y10 y11} (h:Ev (fun _ k _=>x k) (Out.mk false V.junk d [[zl 5 y0,zi y1],[zl 5 y2,zl 14 y3,zi y4,zi y5,zs y6,zl 1 y7,zl 1 y8,zl 8 y9,zi y10,zi y11]] 0)) (h2:Ev (fun m k n=>P m k n d y0 y1 y2 y3 y4 y5 y6 y7 y8 y9 y10 y11) o):Ev (fun m k n=>kaL (x k) (K m k n) (P m k n)) o:=Ev.two h h2 fun _ _ _ e=>congrArg (kaL · _ _) e
abbrev toB:=Bool->Option Out
abbrev poB:=D->Option Out
def r_oB (x:Option Out) (K:toB) (P:poB):=retK false [] (Sh.one Lf.bool) x (fun v w=>K (zcB v 0)) (fun d w=>P d )
theorem v_oB {K:Nat->Nat->Nat->toB} {P:Nat->Nat->Nat->poB} {y0} (h:Ev (fun _ k _=>x k) (zO (V.one (zb y0)))) (h2:Ev (fun m k n=>K m k n y0) o):Ev (fun m k n=>r_oB (x k) (K m k n) (P m k n)) o:=Ev.two h h2 fun _ _ _ e=>congrArg (r_oB · _ _) e
abbrev kFi:=Bool->Int->Option Out
abbrev kFj:=D->Int->Option Out
def kn6 (x:Option Out) (K:kFi) (P:kFj):=retK false [[Lf.int iK]] (Sh.one Lf.bool) x (fun v w=>K (zcB v 0) (zeN w 0 0)) (fun d w=>P d (zeN w 0 0))
theorem kse {K:Nat->Nat->Nat->kFi} {P:Nat->Nat->Nat->kFj} {y0 y1} (h:Ev (fun _ k _=>x k) (Out.mk true (V.one (zb y0)) D.junk [[zi y1]] 0)) (h2:Ev (fun m k n=>K m k n y0 y1) o):Ev (fun m k n=>kn6 (x k) (K m k n) (P m k n)) o:=Ev.two h h2 fun _ _ _ e=>congrArg (kn6 · _ _) e
abbrev ksf:=Bool->LL->Int->Option Out
abbrev ksg:=D->LL->Int->Option Out
def kar (x:Option Out) (K:ksf) (P:ksg):=retK false [[Lf.lst 5,Lf.int iK]] (Sh.one Lf.bool) x (fun v w=>K (zcB v 0) (zeR w 0 0) (zeN w 0 1)) (fun d w=>P d (zeR w 0 0) (zeN w 0 1))
theorem keq {K:Nat->Nat->Nat->ksf} {P:Nat->Nat->Nat->ksg} {y0 y1 y2} (h:Ev (fun _ k _=>x k) (Out.mk true (V.one (zb y0)) D.junk (oA y1 y2) 0)) (h2:Ev (fun m k n=>K m k n y0 y1 y2) o):Ev (fun m k n=>kar (x k) (K m k n) (P m k n)) o:=Ev.two h h2 fun _ _ _ e=>congrArg (kar · _ _) e
abbrev toI:=Int->Option Out
abbrev poI:=D->Option Out
def r_oI (x:Option Out) (K:toI) (P:poI):=retK false [] (Sh.one (Lf.int iK)) x (fun v w=>K (zcN v 0)) (fun d w=>P d )
theorem v_oI {K:Nat->Nat->Nat->toI} {P:Nat->Nat->Nat->poI} {y0} (h:Ev (fun _ k _=>x k) (zO (V.one (zi y0)))) (h2:Ev (fun m k n=>K m k n y0) o):Ev (fun m k n=>r_oI (x k) (K m k n) (P m k n)) o:=Ev.two h h2 fun _ _ _ e=>congrArg (r_oI · _ _) e
abbrev kk5:=Int->LL->Option Out
abbrev kk6:=D->LL->Option Out
def kcp (x:Option Out) (K:kk5) (P:kk6):=retK false [[Lf.slf,(Lf.own 5 1)]] (Sh.one (Lf.int iK)) x (fun v w=>K (zcN v 0) (X.orows (List.getD (List.getD w 0 []) 1 (X.d D.junk)))) (fun d w=>P d (X.orows (List.getD (List.getD w 0 []) 1 (X.d D.junk))))
theorem kcq {K:Nat->Nat->Nat->kk5} {P:Nat->Nat->Nat->kk6} {y0 y1} (h:Ev (fun _ k _=>x k) (Out.mk true (V.one (zi y0)) D.junk [[X.slf 0,X.own 0 5 1 y1]] 1)) (h2:Ev (fun m k n=>K m k n y0 y1) o):Ev (fun m k n=>kcp (x k) (K m k n) (P m k n)) o:=Ev.two h h2 fun _ _ _ e=>congrArg (kcp · _ _) e
abbrev kFk:=Int->Int->Option Out
abbrev kFl:=D->Int->Option Out
def ksh (x:Option Out) (K:kFk) (P:kFl):=retK false [[Lf.int iK]] (Sh.one (Lf.int iK)) x (fun v w=>K (zcN v 0) (zeN w 0 0)) (fun d w=>P d (zeN w 0 0))
theorem kFm {K:Nat->Nat->Nat->kFk} {P:Nat->Nat->Nat->kFl} {y0 y1} (h:Ev (fun _ k _=>x k) (Out.mk true (V.one (zi y0)) D.junk [[zi y1]] 0)) (h2:Ev (fun m k n=>K m k n y0 y1) o):Ev (fun m k n=>ksh (x k) (K m k n) (P m k n)) o:=Ev.two h h2 fun _ _ _ e=>congrArg (ksh · _ _) e
abbrev kmf:=Int->LL->Int->Option Out
abbrev kmg:=D->LL->Int->Option Out
def kdt (x:Option Out) (K:kmf) (P:kmg):=retK false [[Lf.lst 5,Lf.int iK]] (Sh.one (Lf.int iK)) x (fun v w=>K (zcN v 0) (zeR w 0 0) (zeN w 0 1)) (fun d w=>P d (zeR w 0 0) (zeN w 0 1))
theorem kuZ {K:Nat->Nat->Nat->kmf} {P:Nat->Nat->Nat->kmg} {y0 y1 y2} (h:Ev (fun _ k _=>x k) (Out.mk true (V.one (zi y0)) D.junk (oA y1 y2) 0)) (h2:Ev (fun m k n=>K m k n y0 y1 y2) o):Ev (fun m k n=>kdt (x k) (K m k n) (P m k n)) o:=Ev.two h h2 fun _ _ _ e=>congrArg (kdt · _ _) e
theorem ku0 {K:Nat->Nat->Nat->kmf} {P:Nat->Nat->Nat->kmg} {y1 y2} (h:Ev (fun _ k _=>x k) (Out.mk false V.junk d (oA y1 y2) 0)) (h2:Ev (fun m k n=>P m k n d y1 y2) o):Ev (fun m k n=>kdt (x k) (K m k n) (P m k n)) o:=Ev.two h h2 fun _ _ _ e=>congrArg (kdt · _ _) e
abbrev kjP:=LL->LL->Int->Option Out
abbrev kjQ:=D->LL->Int->Option Out
def kcI (x:Option Out) (K:kjP) (P:kjQ):=retK false [[Lf.lst 5,Lf.int iK]] (Sh.one (Lf.lst 1)) x (fun v w=>K (zcR v 0) (zeR w 0 0) (zeN w 0 1)) (fun d w=>P d (zeR w 0 0) (zeN w 0 1))
theorem ksi {K:Nat->Nat->Nat->kjP} {P:Nat->Nat->Nat->kjQ} {y0 y1 y2} (h:Ev (fun _ k _=>x k) (Out.mk true (V.one (zl 1 y0)) D.junk (oA y1 y2) 0)) (h2:Ev (fun m k n=>K m k n y0 y1 y2) o):Ev (fun m k n=>kcI (x k) (K m k n) (P m k n)) o:=Ev.two h h2 fun _ _ _ e=>congrArg (kcI · _ _) e
theorem ksj {K:Nat->Nat->Nat->kjP} {P:Nat->Nat->Nat->kjQ} {y1 y2} (h:Ev (fun _ k _=>x k) (Out.mk false V.junk d (oA y1 y2) 0)) (h2:Ev (fun m k n=>P m k n d y1 y2) o):Ev (fun m k n=>kcI (x k) (K m k n) (P m k n)) o:=Ev.two h h2 fun _ _ _ e=>congrArg (kcI · _ _) e
abbrev kjR:=LL->LL->Int->Option Out
abbrev kjS:=D->LL->Int->Option Out
def kcJ (x:Option Out) (K:kjR) (P:kjS):=retK false [[Lf.lst 5,Lf.int iK]] (Sh.one (Lf.lst 8)) x (fun v w=>K (zcR v 0) (zeR w 0 0) (zeN w 0 1)) (fun d w=>P d (zeR w 0 0) (zeN w 0 1))
theorem ksk {K:Nat->Nat->Nat->kjR} {P:Nat->Nat->Nat->kjS} {y0 y1 y2} (h:Ev (fun _ k _=>x k) (Out.mk true (V.one (zl 8 y0)) D.junk (oA y1 y2) 0)) (h2:Ev (fun m k n=>K m k n y0 y1 y2) o):Ev (fun m k n=>kcJ (x k) (K m k n) (P m k n)) o:=Ev.two h h2 fun _ _ _ e=>congrArg (kcJ · _ _) e
theorem ksl {K:Nat->Nat->Nat->kjR} {P:Nat->Nat->Nat->kjS} {y1 y2} (h:Ev (fun _ k _=>x k) (Out.mk false V.junk d (oA y1 y2) 0)) (h2:Ev (fun m k n=>P m k n d y1 y2) o):Ev (fun m k n=>kcJ (x k) (K m k n) (P m k n)) o:=Ev.two h h2 fun _ _ _ e=>congrArg (kcJ · _ _) e
abbrev toS:=ByteArray->Option Out
abbrev poS:=D->Option Out
def r_oS (x:Option Out) (K:toS) (P:poS):=retK false [] (Sh.one Lf.str) x (fun v w=>K (zcS v 0)) (fun d w=>P d )
theorem v_oS {K:Nat->Nat->Nat->toS} {P:Nat->Nat->Nat->poS} {y0} (h:Ev (fun _ k _=>x k) (zO (V.one (zs y0)))) (h2:Ev (fun m k n=>K m k n y0) o):Ev (fun m k n=>r_oS (x k) (K m k n) (P m k n)) o:=Ev.two h h2 fun _ _ _ e=>congrArg (r_oS · _ _) e
abbrev ksm:=ByteArray->Option Out
abbrev ksn:=D->Option Out
def ker (x:Option Out) (K:ksm) (P:ksn):=retK true [[Lf.slf,(Lf.own 5 1)]] (Sh.one Lf.str) x (fun v w=>K (zcS v 0)) (fun d w=>P d )
theorem kpL (y0:ByteArray) (zJ:X) (K:ByteArray->Option Out) (P:D->Option Out):ker (oS (V.one (zs y0)) [[X.slf 0,zJ]]) K P=K y0:=rfl
theorem kpM {x:Nat->Option Out} {K:Nat->Nat->Nat->ByteArray->Option Out} {P:Nat->Nat->Nat->D->Option Out} {o:Out} {y0:ByteArray} {zJ:X} (h:Ev (fun _ k _=>x k) (Out.mk true (V.one (zs y0)) D.junk [[X.slf 0,zJ]] 0)) (h2:Ev (fun m k n=>K m k n y0) o):Ev (fun m k n=>ker (x k) (K m k n) (P m k n)) o:=Ev.two h h2 fun m k n e=>(congrArg (fun z=>ker z (K m k n) (P m k n)) e).trans (kpL y0 zJ _ _)
abbrev kso:=ByteArray->LL->Int->Option Out
abbrev ksp:=D->LL->Int->Option Out
def kgR (x:Option Out) (K:kso) (P:ksp):=retK false [[Lf.lst 5,Lf.int iK]] (Sh.one Lf.str) x (fun v w=>K (zcS v 0) (zeR w 0 0) (zeN w 0 1)) (fun d w=>P d (zeR w 0 0) (zeN w 0 1))
theorem kn7 {K:Nat->Nat->Nat->kso} {P:Nat->Nat->Nat->ksp} {y0 y1 y2} (h:Ev (fun _ k _=>x k) (Out.mk true (V.one (zs y0)) D.junk (oA y1 y2) 0)) (h2:Ev (fun m k n=>K m k n y0 y1 y2) o):Ev (fun m k n=>kgR (x k) (K m k n) (P m k n)) o:=Ev.two h h2 fun _ _ _ e=>congrArg (kgR · _ _) e
abbrev kbv:=LL->LL->Int->Int->ByteArray->LL->LL->LL->Int->Int->Int->ByteArray->Int->Int->Option Out
abbrev kbw:=D->Option Out
def ka1 (x:Option Out) (K:kbv) (P:kbw):=retK false [] (Sh.tup [(Sh.agg [Lf.lst 5,Lf.lst 14,Lf.int iK,Lf.int iK,Lf.str,Lf.lst 1,Lf.lst 1,Lf.lst 8,Lf.int iK,Lf.int iK]),(Sh.agg [Lf.int iK,Lf.str,Lf.int iK,Lf.int iK])]) x (fun v w=>K (zcR (V.comp v 0) 0) (zcR (V.comp v 0) 1) (zcN (V.comp v 0) 2) (zcN (V.comp v 0) 3) (zcS (V.comp v 0) 4) (zcR (V.comp v 0) 5) (zcR (V.comp v 0) 6) (zcR (V.comp v 0) 7) (zcN (V.comp v 0) 8) (zcN (V.comp v 0) 9) (zcN (V.comp v 1) 0) (zcS (V.comp v 1) 1) (zcN (V.comp v 1) 2) (zcN (V.comp v 1) 3)) (fun d w=>P d )
theorem kca {K:Nat->Nat->Nat->kbv} {P:Nat->Nat->Nat->kbw} {y0 y1 y2 y3 y4 y5 y6 y7 y8 y9 y10 y11 y12 y13} (h:Ev (fun _ k _=>x k) (zO (V.tup [wg1 y0 y1 y2 y3 y4 y5 y6 y7 y8 y9,vF y10 y11 y12 y13]))) (h2:Ev (fun m k n=>K m k n y0 y1 y2 y3 y4 y5 y6 y7 y8 y9 y10 y11 y12 y13) o):Ev (fun m k n=>ka1 (x k) (K m k n) (P m k n)) o:=Ev.two h h2 fun _ _ _ e=>congrArg (ka1 · _ _) e
abbrev kgw:=Int->ByteArray->Int->Int->Int->Int->Option Out
abbrev kgx:=D->Option Out
def kcj (x:Option Out) (K:kgw) (P:kgx):=retK false [] (Sh.tup [(Sh.agg [Lf.int iK,Lf.str,Lf.int iK,Lf.int iK,Lf.int iK]),(Sh.one (Lf.int iK))]) x (fun v w=>K (zcN (V.comp v 0) 0) (zcS (V.comp v 0) 1) (zcN (V.comp v 0) 2) (zcN (V.comp v 0) 3) (zcN (V.comp v 0) 4) (zcN (V.comp v 1) 0)) (fun d w=>P d )
theorem kck {K:Nat->Nat->Nat->kgw} {P:Nat->Nat->Nat->kgx} {y0 y1 y2 y3 y4 y5} (h:Ev (fun _ k _=>x k) (zO (V.tup [vK y0 y1 y2 y3 y4,V.one (zi y5)]))) (h2:Ev (fun m k n=>K m k n y0 y1 y2 y3 y4 y5) o):Ev (fun m k n=>kcj (x k) (K m k n) (P m k n)) o:=Ev.two h h2 fun _ _ _ e=>congrArg (kcj · _ _) e
abbrev kb2:=Int->Int->ByteArray->LL->LL->LL->Int->Int->Int->ByteArray->Int->Int->Option Out
abbrev kb3:=D->Option Out
def kbp (x:Option Out) (K:kb2) (P:kb3):=retK false [] (Sh.tup [(Sh.agg [Lf.int iK,Lf.int iK,Lf.str,Lf.lst 1,Lf.lst 1,Lf.lst 8,Lf.int iK,Lf.int iK]),(Sh.agg [Lf.int iK,Lf.str,Lf.int iK,Lf.int iK])]) x (fun v w=>K (zcN (V.comp v 0) 0) (zcN (V.comp v 0) 1) (zcS (V.comp v 0) 2) (zcR (V.comp v 0) 3) (zcR (V.comp v 0) 4) (zcR (V.comp v 0) 5) (zcN (V.comp v 0) 6) (zcN (V.comp v 0) 7) (zcN (V.comp v 1) 0) (zcS (V.comp v 1) 1) (zcN (V.comp v 1) 2) (zcN (V.comp v 1) 3)) (fun d w=>P d )
theorem kdu {K:Nat->Nat->Nat->kb2} {P:Nat->Nat->Nat->kb3} {y0 y1 y2 y3 y4 y5 y6 y7 y8 y9 y10 y11} (h:Ev (fun _ k _=>x k) (zO (V.tup [vE y0 y1 y2 y3 y4 y5 y6 y7,vF y8 y9 y10 y11]))) (h2:Ev (fun m k n=>K m k n y0 y1 y2 y3 y4 y5 y6 y7 y8 y9 y10 y11) o):Ev (fun m k n=>kbp (x k) (K m k n) (P m k n)) o:=Ev.two h h2 fun _ _ _ e=>congrArg (kbp · _ _) e
abbrev kcW:=Int->Int->ByteArray->LL->LL->LL->Int->Int->Bool->Option Out
abbrev kcX:=D->Option Out
def kbq (x:Option Out) (K:kcW) (P:kcX):=retK false [] (Sh.tup [(Sh.agg [Lf.int iK,Lf.int iK,Lf.str,Lf.lst 1,Lf.lst 1,Lf.lst 8,Lf.int iK,Lf.int iK]),(Sh.one Lf.bool)]) x (fun v w=>K (zcN (V.comp v 0) 0) (zcN (V.comp v 0) 1) (zcS (V.comp v 0) 2) (zcR (V.comp v 0) 3) (zcR (V.comp v 0) 4) (zcR (V.comp v 0) 5) (zcN (V.comp v 0) 6) (zcN (V.comp v 0) 7) (zcB (V.comp v 1) 0)) (fun d w=>P d )
theorem kbr {K:Nat->Nat->Nat->kcW} {P:Nat->Nat->Nat->kcX} {y0 y1 y2 y3 y4 y5 y6 y7 y8} (h:Ev (fun _ k _=>x k) (zO (V.tup [vE y0 y1 y2 y3 y4 y5 y6 y7,V.one (zb y8)]))) (h2:Ev (fun m k n=>K m k n y0 y1 y2 y3 y4 y5 y6 y7 y8) o):Ev (fun m k n=>kbq (x k) (K m k n) (P m k n)) o:=Ev.two h h2 fun _ _ _ e=>congrArg (kbq · _ _) e
abbrev kfG:=Int->D->LL->Option Out
abbrev kfH:=D->LL->Option Out
def kb6 (x:Option Out) (K:kfG) (P:kfH):=retK false [[Lf.slf,(Lf.own 5 1)]] (Sh.tup [(Sh.one (Lf.int iK)),(Sh.one Lf.any)]) x (fun v w=>K (zcN (V.comp v 0) 0) (X.dd (X.cell (V.comp v 1) 0)) (X.orows (List.getD (List.getD w 0 []) 1 (X.d D.junk)))) (fun d w=>P d (X.orows (List.getD (List.getD w 0 []) 1 (X.d D.junk))))
theorem keK {K:Nat->Nat->Nat->kfG} {P:Nat->Nat->Nat->kfH} {y0 y1 y2} (h:Ev (fun _ k _=>x k) (Out.mk true (V.tup [V.one (zi y0),V.one (X.d y1)]) D.junk [[X.slf 0,X.own 0 5 1 y2]] 1)) (h2:Ev (fun m k n=>K m k n y0 y1 y2) o):Ev (fun m k n=>kb6 (x k) (K m k n) (P m k n)) o:=Ev.two h h2 fun _ _ _ e=>congrArg (kb6 · _ _) e
abbrev kgy:=LL->Int->ByteArray->Int->Int->Option Out
abbrev kgz:=D->Option Out
def kb0 (x:Option Out) (K:kgy) (P:kgz):=retK false [] (Sh.tup [(Sh.one (Lf.lst 5)),(Sh.agg [Lf.int iK,Lf.str,Lf.int iK,Lf.int iK])]) x (fun v w=>K (zcR (V.comp v 0) 0) (zcN (V.comp v 1) 0) (zcS (V.comp v 1) 1) (zcN (V.comp v 1) 2) (zcN (V.comp v 1) 3)) (fun d w=>P d )
theorem kaG {K:Nat->Nat->Nat->kgy} {P:Nat->Nat->Nat->kgz} {y0 y1 y2 y3 y4} (h:Ev (fun _ k _=>x k) (zO (V.tup [V.one (zl 5 y0),vF y1 y2 y3 y4]))) (h2:Ev (fun m k n=>K m k n y0 y1 y2 y3 y4) o):Ev (fun m k n=>kb0 (x k) (K m k n) (P m k n)) o:=Ev.two h h2 fun _ _ _ e=>congrArg (kb0 · _ _) e
abbrev ksq:=ByteArray->Int->Option Out
abbrev ksr:=D->Option Out
def kgS (x:Option Out) (K:ksq) (P:ksr):=retK false [] (Sh.tup [(Sh.one Lf.str),(Sh.one (Lf.int iK))]) x (fun v w=>K (zcS (V.comp v 0) 0) (zcN (V.comp v 1) 0)) (fun d w=>P d )
theorem kn8 {K:Nat->Nat->Nat->ksq} {P:Nat->Nat->Nat->ksr} {y0 y1} (h:Ev (fun _ k _=>x k) (zO (V.tup [V.one (zs y0),V.one (zi y1)]))) (h2:Ev (fun m k n=>K m k n y0 y1) o):Ev (fun m k n=>kgS (x k) (K m k n) (P m k n)) o:=Ev.two h h2 fun _ _ _ e=>congrArg (kgS · _ _) e
abbrev kjT:=ByteArray->Int->Option Out
abbrev kjU:=D->Option Out
def ka2 (x:Option Out) (K:kjT) (P:kjU):=retK true [[Lf.slf,(Lf.own 5 1)]] (Sh.tup [(Sh.one Lf.str),(Sh.one (Lf.int iK))]) x (fun v w=>K (zcS (V.comp v 0) 0) (zcN (V.comp v 1) 0)) (fun d w=>P d )
theorem kik (y0:ByteArray) (y1:Int) (zJ:X) (K:ByteArray->Int->Option Out) (P:D->Option Out):ka2 (oS (V.tup [V.one (zs y0),V.one (zi y1)]) [[X.slf 0,zJ]]) K P=K y0 y1:=rfl
theorem keL {x:Nat->Option Out} {K:Nat->Nat->Nat->ByteArray->Int->Option Out} {P:Nat->Nat->Nat->D->Option Out} {o:Out} {y0:ByteArray} {y1:Int} {zJ:X} (h:Ev (fun _ k _=>x k) (Out.mk true (V.tup [V.one (zs y0),V.one (zi y1)]) D.junk [[X.slf 0,zJ]] 0)) (h2:Ev (fun m k n=>K m k n y0 y1) o):Ev (fun m k n=>ka2 (x k) (K m k n) (P m k n)) o:=Ev.two h h2 fun m k n e=>(congrArg (fun z=>ka2 z (K m k n) (P m k n)) e).trans (kik y0 y1 zJ _ _)
theorem kil (y0:ByteArray) (y1:Int) (zJ:X) (K:ByteArray->Int->Option Out) (P:D->Option Out):ka2 (some (Out.mk true (V.tup [V.one (X.d (D.str y0)),V.one (X.d (D.int iK y1))]) D.junk [[X.slf 0,zJ]] 1)) K P=K y0 y1:=rfl
theorem keM {x:Nat->Option Out} {K:Nat->Nat->Nat->ByteArray->Int->Option Out} {P:Nat->Nat->Nat->D->Option Out} {o:Out} {y0:ByteArray} {y1:Int} {zJ:X} (h:Ev (fun _ k _=>x k) (Out.mk true (V.tup [V.one (X.d (D.str y0)),V.one (X.d (D.int iK y1))]) D.junk [[X.slf 0,zJ]] 1)) (h2:Ev (fun m k n=>K m k n y0 y1) o):Ev (fun m k n=>ka2 (x k) (K m k n) (P m k n)) o:=Ev.two h h2 fun m k n e=>(congrArg (fun z=>ka2 z (K m k n) (P m k n)) e).trans (kil y0 y1 zJ _ _)
end
end Go.Proofs.YtaphnbaiamnfpaaGreatDoor.Ps
