/- Code whose joins are sealed: the same meaning, stopped at each join, for the kernel's sake. -/
import Derived.Test.YtaphnbaiamnfpaaGreatDoorPsC
namespace Go.Proofs.YtaphnbaiamnfpaaGreatDoor.Ps
set_option linter.unusedVariables false
set_option linter.unusedSimpArgs false
open Go Go.RowKit
section
variable {α:Type} (Γ:SemL) (shp:FuncId->Sh)
def kuW (J:SCode->St->(SExit->St->Option α)->Option α) (b:SCode) (s:St) (K:SExit->St->Option α):Option α :=
 match b with
 | .ret=>K .ret s
 | b=>J b s K
def kcC (J:SCode->St->(SExit->St->Option α)->Option α) (L:List Nat->SCode->St->(SExit->St->Option α)->Option α):SCode->St->(SExit->St->Option α)->Option α
 | .skip,s,K=>K .norm s
 | .region false ops,s,K=>opsT Γ shp ops 0 s (fun s=>K .norm s) (fun d s=>K (.pan d) s)
 | .region true ops,s,K=>cond (kcS (ops.map (·.after)) 0) (opsD Γ shp (kbV (ops.map (·.after))) ops 0 s [] none (fun s=>K .norm s) (fun d s=>K (.pan d) s)) none
 | .seq none a b,s,K=>kcC J L a s (kSeq none (fun s K=>kcC J L b s K) K)
 | .seq (some lo) a b,s,K=>kcC J L a s (kSeq (some lo) (fun s K=>kuW J b s K) K)
 | .cond c a b,s,K=>kev (ev (fun t=>look t s.env) c) fun t=>cond t (kcC J L a s K) (kcC J L b s K)
 | .block id c,s,K=>kcC J L c s (kBlk id K)
 | .loop live c,s,K=>L live c (s.norm live) K
 | .exit id,s,K=>K (.exit id) s
 | .ret,s,K=>K .ret s
theorem kuX {J:SCode->St->(SExit->St->Option α)->Option α} {L:List Nat->SCode->St->(SExit->St->Option α)->Option α} (hJ:∀ c s K,J c s K=kbC Γ shp L c s K) (b:SCode) (s:St) (K:SExit->St->Option α) :
 kuW J b s K=kbC Γ shp L b s K:=by
 unfold kuW
 split
 · unfold kbC;rfl
 · exact hJ _ _ _
theorem kcg {J:SCode->St->(SExit->St->Option α)->Option α} {L:List Nat->SCode->St->(SExit->St->Option α)->Option α} (hJ:∀ c s K,J c s K=kbC Γ shp L c s K) :
 ∀ (c:SCode) (s:St) (K:SExit->St->Option α),kcC Γ shp J L c s K=kbC Γ shp L c s K
 | .skip,s,K=>by unfold kcC kbC;rfl
 | .region false ops,s,K=>by unfold kcC kbC;rfl
 | .region true ops,s,K=>by unfold kcC kbC;rfl
 | .seq none a b,s,K=>by
  unfold kcC kbC
  rw [kcg hJ a]
  have:(fun s K=>kcC Γ shp J L b s K)=fun s K=>kbC Γ shp L b s K:=by funext s K;exact kcg hJ b s K
  rw [this]
 | .seq (some lo) a b,s,K=>by
  unfold kcC kbC
  rw [kcg hJ a]
  have:(fun s K=>kuW J b s K)=fun s K=>kbC Γ shp L b s K:=by funext s K;exact kuX Γ shp hJ b s K
  rw [this]
 | .cond c a b,s,K=>by
  unfold kcC kbC
  have:(fun t=>cond t (kcC Γ shp J L a s K) (kcC Γ shp J L b s K))=fun t=>cond t (kbC Γ shp L a s K) (kbC Γ shp L b s K):=by funext t;rw [kcg hJ a,kcg hJ b]
  rw [this]
 | .block id c,s,K=>by
  unfold kcC kbC
  exact kcg hJ c s _
 | .loop live c,s,K=>by unfold kcC kbC;rfl
 | .exit id,s,K=>by unfold kcC kbC;rfl
 | .ret,s,K=>by unfold kcC kbC;rfl
end
theorem kr9 (Γ:SemL) (shp:FuncId->Sh):∃ J:Nat->SCode->St->(SExit->St->Option Out)->Option Out,∀ n c s K,J n c s K=kbC Γ shp (kdH Γ shp n) c s K:=⟨_,fun _ _ _ _=>rfl⟩
noncomputable def Jn (Γ:SemL) (shp:FuncId->Sh):Nat->SCode->St->(SExit->St->Option Out)->Option Out:=Classical.choose (kr9 Γ shp)
theorem kaa (Γ:SemL) (shp:FuncId->Sh) (n:Nat) (c:SCode) (s:St) (K:SExit->St->Option Out):Jn Γ shp n c s K=kcC Γ shp (Jn Γ shp n) (kdH Γ shp n) c s K :=
 (Classical.choose_spec (kr9 Γ shp) n c s K).trans (kcg Γ shp (Classical.choose_spec (kr9 Γ shp) n) c s K).symm
theorem kah (Γ:SemL) (shp:FuncId->Sh) (n:Nat) (live:List Nat) (c:SCode) (s:St) (K:SExit->St->Option Out) :
 kdH Γ shp (n+1) live c s K=kcC Γ shp (Jn Γ shp n) (kdH Γ shp n) c s (kup (kdH Γ shp n) live c K) :=
 (show kdH Γ shp (n+1) live c s K=kbC Γ shp (kdH Γ shp n) c s (kup (kdH Γ shp n) live c K) from rfl).trans (kcg Γ shp (Classical.choose_spec (kr9 Γ shp) n) c s _).symm
theorem kag (G:Bool->SemL) (shp:FuncId->Sh) (rc:FuncId->Option TypeId) (df:Bool) (sh:Sh) (fn:SFunc) (n:Nat) (args:List V) (rows:List (List Lf × List X)) :
 runF G shp rc df sh fn n args rows=kcC (G false) shp (Jn (G false) shp n) (kdH (G false) shp n) fn.body { env:=begE 0 args,heap:=begB 0 rows,live:=kas rows,nb:=rows.length,nk:=(kas rows).length,np:=rows.length,dfs:=[] } (finK (G true) rc df sh fn.results rows.length) :=
 (kcg (G false) shp (Classical.choose_spec (kr9 (G false) shp) n) _ _ _).symm
section
variable {α:Type}
def wX (l:Lf) (x:X) (K:X->Option α):Option α :=
 match l with
 | .any=>cond x.isD (K (.d x.dd)) none
 | .bool=>cond (x.isD&&x.dd.isBool) (K (.d (.bool x.dd.bit))) none
 | .int k=>cond (x.isD&&x.dd.isInt k) (K (.d (.int k x.dd.num))) none
 | .str=>cond (x.isD&&x.dd.isStr) (K (.d (.str x.dd.bytes))) none
 | .lst sz=>cond (x.isD&&x.dd.isList sz) (K (.d (.list sz x.dd.rows))) none
 | .nil sz=>cond (x.isNil sz) (K (.nilL sz)) none
 | .own e sz=>cond (x.isOwn e sz) (K (.own x.key e sz x.orows)) none
 | .slf=>cond x.isSlf (K (.slf x.sb)) none
def wC (l:Lf) (x:X) (c:Nat) (K:X->Nat->Option α):Option α :=
 match l with
 | .own e sz=>cond (x.isOwn e sz&&Nat.beq x.key c) (K (.own c e sz x.orows) (c+1)) none
 | l=>wX l x fun y=>K y c
def wCs (ls:List Lf) (v:V) (i c:Nat) (K:List X->Nat->Option α):Option α :=
 match ls with
 | []=>K [] c
 | l :: r=>wC l (X.cell v i) c fun x c=>wCs r v (i+1) c fun xs c=>K (x :: xs) c
mutual
def wS (s:Sh) (v:V) (c:Nat) (K:V->Nat->Option α):Option α :=
 match s with
 | .one l=>cond v.isOne (wC l (X.cell v 0) c fun x c=>K (.one x) c) none
 | .agg ls=>cond (v.isAgg ls.length) (wCs ls v 0 c fun xs c=>K (.agg xs) c) none
 | .tup ss=>cond (v.isTup ss.length) (wSs ss v 0 c fun xs c=>K (.tup xs) c) none
 | .none=>K .junk c
def wSs (ss:List Sh) (v:V) (i c:Nat) (K:List V->Nat->Option α):Option α :=
 match ss with
 | []=>K [] c
 | s :: r=>wS s (v.comp i) c fun x c=>wSs r v (i+1) c fun xs c=>K (x :: xs) c
end
def wR (sp:Bool) (l:Lf) (x:X) (i c:Nat) (K:X->Nat->Option α):Option α :=
 match l with
 | .own e sz=>cond sp (K (.d .junk) c) (cond (x.isOwn e sz&&Nat.beq x.key c) (K (.own c e sz x.orows) (c+1)) none)
 | .slf=>cond (x.isSlf&&Nat.beq x.sb i) (K (.slf i) c) none
 | l=>cond x.isD (wX l x fun y=>K y c) none
def wDs (sp:Bool) (ls:List Lf) (row:List X) (i pos c:Nat) (K:List X->Nat->Option α):Option α :=
 match ls with
 | []=>cond (Nat.beq row.length pos) (K [] c) none
 | l :: r=>wR sp l (row.getD pos (.d .junk)) i c fun x c=>wDs sp r row i (pos+1) c fun xs c=>K (x :: xs) c
def kFg (sp:Bool):List (List Lf)->List (List X)->Nat->Nat->(List (List X)->Nat->Option α)->Option α
 | [],_,_,c,K=>K [] c
 | ls :: r,rows,i,c,K=>wDs sp ls (rows.getD i []) i 0 c fun xs c=>kFg sp r rows (i+1) c fun hw c=>K (xs :: hw) c
end
def kFh:List Lf->Bool
 | []=>true
 | .own _ _ :: _=>false
 | _ :: r=>kFh r
def kyL:List (List Lf)->Bool
 | []=>true
 | l :: r=>kFh l&&kyL r
def retK (sp:Bool) (lss:List (List Lf)) (sh:Sh) (x:Option Out) (K:V->List (List X)->Option Out) (Kp:D->List (List X)->Option Out):Option Out :=
 x.bind fun o=>kFg sp lss o.rows 0 0 fun rows c0 =>
  cond o.ok (wS sh o.val c0 fun v c=>cond (Nat.ble c o.m&&Nat.ble c 16) (K v rows) none) (cond (Nat.beq c0 0&&kyL lss) (Kp o.pv rows) none)
end Go.Proofs.YtaphnbaiamnfpaaGreatDoor.Ps
