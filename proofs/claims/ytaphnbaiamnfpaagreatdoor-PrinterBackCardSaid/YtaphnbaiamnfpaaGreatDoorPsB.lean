/- A small language for the code of a function, with what each of its forms means on plain data. -/
import Derived.Test.YtaphnbaiamnfpaaGreatDoorPsA
namespace Go.Proofs.YtaphnbaiamnfpaaGreatDoor.Ps
set_option linter.unusedVariables false
set_option linter.unusedSimpArgs false
open Go Go.RowKit
inductive SArg where
 | t (n:Nat)
 | k (v:V)
deriving Inhabited
inductive Lf where
 | any
 | bool
 | int (k:IntKind)
 | str
 | lst (sz:Nat)
 | nil (sz:Nat)
 | own (e sz:Nat)
 | slf
deriving Inhabited
inductive Sh where
 | one (l:Lf)
 | agg (ls:List Lf)
 | tup (ss:List Sh)
 | none
deriving Inhabited
inductive SOp where
 | mov (x:SArg)
 | pick (c a b:SArg)
 | alloc (sh:List Lf) (row:List X)
 | box (sh:List Lf) (x:SArg)
 | build (zero:List X) (parts:List (Nat × Nat × SArg))
 | lit (e sz:Nat) (parts:List SArg)
 | load (agg:Bool) (n:Nat) (a:SArg)
 | store (n:Nat) (a x:SArg)
 | faddr (off:Nat) (x:SArg)
 | field (agg:Bool) (off n:Nat) (x:SArg)
 | iaddr (sz:Nat) (x i:SArg)
 | aaddr (len sz:Nat) (x i:SArg)
 | chr (x i:SArg)
 | sub (x:SArg) (lo hi:Option SArg)
 | subl (sz:Nat) (x:SArg) (lo hi:Option SArg)
 | ibin (k:IntKind) (op:BinOp) (x y:SArg)
 | sbin (op:BinOp) (x y:SArg)
 | bbin (op:BinOp) (x y:SArg)
 | inil (neg:Bool) (x:SArg)
 | aeq (neg:Bool) (ls:List Lf) (x y:SArg)
 | inot (x:SArg)
 | ineg (k:IntKind) (x:SArg)
 | conv (k k':IntKind) (x:SArg)
 | bstr (x:SArg)
 | mkI (t:TypeId) (x:SArg)
 | mkF (f:FuncId) (caps:List SArg)
 | ext (x:SArg) (i:Nat)
 | len (str:Bool) (x:SArg)
 | mnmx (mx:Bool) (x y:SArg)
 | app (e sz bytes:Nat) (x y:SArg)
 | call (f:FuncId) (args:List SArg)
 | callv (x:SArg) (args:List SArg)
 | nchk (x:SArg)
 | pan (x:SArg)
 | allocB (e:Nat)
 | boxB (e:Nat) (x:SArg)
 | dfr (f:FuncId) (args:List SArg)
 | dfrv (x:SArg) (args:List SArg)
deriving Inhabited
structure SOper where
 dst:Option Nat
 op:SOp
 after:List Nat
 guard:Option (Nat × Nat × Bool)
deriving Inhabited
inductive SCode where
 | skip
 | region (draw:Bool) (ops:List SOper)
 | seq (lo:Option (List Nat)) (a b:SCode)
 | cond (c:SArg) (a b:SCode)
 | block (id:Nat) (c:SCode)
 | loop (live:List Nat) (c:SCode)
 | exit (id:Nat)
 | ret
deriving Inhabited
inductive SRes where
 | tmp (t:Nat)
 | cell (agg:Bool) (n:Nat) (t:Nat)
deriving Inhabited
structure SFunc where
 nparams:Nat
 results:List SRes
 body:SCode
deriving Inhabited
structure Out where
 ok:Bool
 val:V
 pv:D
 rows:List (List X)
 m:Nat
deriving Inhabited
def D.isInt (k:IntKind):D->Bool
 | .int k' _=>k'==k
 | _=>false
def D.num:D->Int
 | .int _ n=>n
 | _=>0
def D.isBool:D->Bool
 | .bool _=>true
 | _=>false
def D.bit:D->Bool
 | .bool b=>b
 | _=>false
def D.isStr:D->Bool
 | .str _=>true
 | _=>false
def D.bytes:D->ByteArray
 | .str s=>s
 | _=>⟨#[]⟩
def D.isList (sz:Nat):D->Bool
 | .list s _=>Nat.beq s sz
 | _=>false
def D.isL:D->Bool
 | .list _ _=>true
 | _=>false
def D.rows:D->List (List D)
 | .list _ r=>r
 | _=>[]
def D.isNilI:D->Bool
 | .nilI=>true
 | _=>false
def D.isI:D->Bool
 | .iface _ _=>true
 | .err=>true
 | _=>false
section
variable {α:Type}
def gInt (k:IntKind) (v:V) (K:Int->Option α):Option α :=
 match v with
 | .one (.d x)=>cond (x.isInt k) (K x.num) none
 | _=>none
def kev (v:V) (K:Bool->Option α):Option α :=
 match v with
 | .one (.d x)=>cond x.isBool (K x.bit) none
 | _=>none
def gStr (v:V) (K:ByteArray->Option α):Option α :=
 match v with
 | .one (.d x)=>cond x.isStr (K x.bytes) none
 | _=>none
def kfo (sz:Nat) (v:V) (K:List (List D)->Option α):Option α :=
 match v with
 | .one (.d x)=>cond (x.isList sz) (K x.rows) none
 | .one (.own _ _ s rows)=>cond (Nat.beq s sz) (K rows) none
 | .one (.nilL _)=>K []
 | _=>none
def keE (v:V) (K:List X->Option α):Option α :=
 match v with
 | .one x=>K [x]
 | .agg cs=>K cs
 | _=>none
def gD (x:X) (K:D->Option α):Option α :=
 match x with
 | .d x=>K x
 | .own _ _ sz rows=>K (.list sz rows)
 | .nilL sz=>K (.list sz [])
 | _=>none
def gDs (cs:List X) (K:List D->Option α):Option α :=
 match cs with
 | []=>K []
 | x :: r=>gD x fun y=>gDs r fun ys=>K (y :: ys)
end
structure Blk where
 sh:List Lf
 row:List X
deriving Inhabited
structure St where
 env:List (Nat × V)
 heap:List (Nat × Blk)
 live:List Nat
 nb:Nat
 nk:Nat
 np:Nat
 dfs:List (FuncId × List V)
deriving Inhabited
def look (t:Nat):List (Nat × V)->V
 | []=>.junk
 | (k,v) :: r=>cond (Nat.beq k t) v (look t r)
def kaI (b:Nat):List (Nat × Blk)->Option Blk
 | []=>none
 | (k,v) :: r=>cond (Nat.beq k b) (some v) (kaI b r)
def hasN (κ:Nat):List Nat->Bool
 | []=>false
 | k :: r=>cond (Nat.beq k κ) true (hasN κ r)
structure View where
 env:Nat->V
 heap:Nat->Option Blk
 live:Nat->Bool
def St.view (s:St):View:=⟨fun t=>look t s.env,fun b=>kaI b s.heap,fun κ=>hasN κ s.live⟩
structure Patch where
 x:V
 hw:List (Nat × Blk)
 kill:List Nat
 born:List Nat
deriving Inhabited
def kee (row:List X) (off:Nat) (cs:List X):List X:=row.take off++cs++row.drop (off+cs.length)
def rcells (row:List D):Nat->Nat->List X
 | _,0=>[]
 | off,n+1=>.d (dat row off) :: rcells row (off+1) n
def idx (b:Nat):List Nat->Nat->Option Nat
 | [],_=>none
 | k :: r,i=>cond (Nat.beq k b) (some i) (idx b r (i+1))
mutual
def X.ids:X->List Nat->List Nat
 | .ptr b _,acc=>cond (hasN b acc) acc (acc++[b])
 | .fn _ caps,acc=>X.idsL caps acc
 | _,acc=>acc
def X.idsL:List X->List Nat->List Nat
 | [],acc=>acc
 | x :: r,acc=>X.idsL r (x.ids acc)
end
def V.ids:V->List Nat->List Nat
 | .one x,acc=>x.ids acc
 | .agg cs,acc=>X.idsL cs acc
 | _,acc=>acc
def V.idsL:List V->List Nat->List Nat
 | [],acc=>acc
 | x :: r,acc=>V.idsL r (x.ids acc)
mutual
def X.ren (fb fk:Nat->Option Nat):X->X
 | .ptr b off=>match fb b with | some i=>.ptr i off | none=>.d .junk
 | .own κ e sz rows=>match fk κ with | some i=>.own i e sz rows | none=>.d (.list sz rows)
 | .fn f caps=>.fn f (X.renL fb fk caps)
 | .d x=>.d x
 | .nilL sz=>.nilL sz
 | .rptr sz row off=>.rptr sz row off
 | .slf b=>match fb b with | some i=>.slf i | none=>.d .junk
def X.renL (fb fk:Nat->Option Nat):List X->List X
 | []=>[]
 | x :: r=>x.ren fb fk :: X.renL fb fk r
end
mutual
def V.ren (fb fk:Nat->Option Nat):V->V
 | .one x=>.one (x.ren fb fk)
 | .agg cs=>.agg (X.renL fb fk cs)
 | .tup vs=>.tup (V.renL fb fk vs)
 | .junk=>.junk
def V.renL (fb fk:Nat->Option Nat):List V->List V
 | []=>[]
 | x :: r=>x.ren fb fk :: V.renL fb fk r
end
section
variable {α:Type}
def X.cell (v:V) (i:Nat):X :=
 match v with
 | .one x=>x
 | .agg cs=>cs.getD i (.d .junk)
 | _=>.d .junk
def X.dd:X->D
 | .d x=>x
 | _=>.junk
def X.isD:X->Bool
 | .d _=>true
 | _=>false
def X.isNil (sz:Nat):X->Bool
 | .nilL s=>Nat.beq s sz
 | _=>false
def X.isOwn (e sz:Nat):X->Bool
 | .own _ e' s _=>Nat.beq e' e&&Nat.beq s sz
 | _=>false
def X.isJ:X->Bool
 | .d .junk=>true
 | _=>false
def X.key:X->Nat
 | .own κ _ _ _=>κ
 | _=>0
def X.isSlf:X->Bool
 | .slf _=>true
 | _=>false
def X.sb:X->Nat
 | .slf b=>b
 | _=>0
def X.orows:X->List (List D)
 | .own _ _ _ r=>r
 | _=>[]
def kjo (l:Lf) (x:X) (K:X->Option α):Option α :=
 match l with
 | .any=>cond x.isD (K (.d x.dd)) none
 | .bool=>cond (x.isD&&x.dd.isBool) (K (.d (.bool x.dd.bit))) none
 | .int k=>cond (x.isD&&x.dd.isInt k) (K (.d (.int k x.dd.num))) none
 | .str=>cond (x.isD&&x.dd.isStr) (K (.d (.str x.dd.bytes))) none
 | .lst sz=>cond (x.isD&&x.dd.isList sz) (K (.d (.list sz x.dd.rows))) none
 | .nil sz=>cond (x.isNil sz) (K (.nilL sz)) none
 | .own e sz=>cond (x.isOwn e sz) (K (.own x.key e sz x.orows)) none
 | .slf=>cond x.isSlf (K (.slf x.sb)) none
def kya (ls:List Lf) (v:V) (i:Nat) (K:List X->Option α):Option α :=
 match ls with
 | []=>K []
 | l :: r=>kjo l (X.cell v i) fun x=>kya r v (i+1) fun xs=>K (x :: xs)
def V.isOne:V->Bool
 | .one _=>true
 | _=>false
def V.isAgg (n:Nat):V->Bool
 | .agg cs=>Nat.beq cs.length n
 | _=>false
def V.isTup (n:Nat):V->Bool
 | .tup vs=>Nat.beq vs.length n
 | _=>false
def V.comp (v:V) (i:Nat):V :=
 match v with
 | .tup vs=>vs.getD i .junk
 | _=>.junk
mutual
def castV (s:Sh) (v:V) (K:V->Option α):Option α :=
 match s with
 | .one l=>cond v.isOne (kjo l (X.cell v 0) fun x=>K (.one x)) none
 | .agg ls=>cond (v.isAgg ls.length) (kya ls v 0 fun xs=>K (.agg xs)) none
 | .tup ss=>cond (v.isTup ss.length) (kyb ss v 0 fun xs=>K (.tup xs)) none
 | .none=>K .junk
def kyb (ss:List Sh) (v:V) (i:Nat) (K:List V->Option α):Option α :=
 match ss with
 | []=>K []
 | s :: r=>castV s (v.comp i) fun x=>kyb r v (i+1) fun xs=>K (x :: xs)
end
def gH (l:Lf) (x:X) (K:X->Option α):Option α :=
 match l with
 | .own e sz=>cond (x.isOwn e sz) (K (.own x.key e sz x.orows)) (cond x.isJ (K (.d .junk)) none)
 | .slf=>cond x.isSlf (K (.slf x.sb)) none
 | _=>gD x fun d=>K (.d d)
def gHs:List Lf->List X->(List X->Option α)->Option α
 | _,[],K=>K []
 | ls,x :: r,K=>gH (ls.headD .any) x fun y=>gHs ls.tail r fun ys=>K (y :: ys)
def spends (f:FuncId):Bool:=Nat.beq f 25 || Nat.beq f 60
def kpl (sp:Bool) (l:Lf) (x:X) (b i nk c:Nat) (K:X->Nat->Option α):Option α :=
 match l with
 | .own e sz=>cond sp (K (.d .junk) c) (cond (x.isOwn e sz&&Nat.beq x.key c) (K (.own (nk+c) e sz x.orows) (c+1)) none)
 | .slf=>cond (x.isSlf&&Nat.beq x.sb i) (K (.slf b) c) none
 | l=>cond x.isD (kjo l x fun y=>K y c) none
def keF (sp:Bool) (ls:List Lf) (row:List X) (b i nk pos c:Nat) (K:List X->Nat->Option α):Option α :=
 match ls with
 | []=>cond (Nat.beq row.length pos) (K [] c) none
 | l :: r=>kpl sp l (row.getD pos (.d .junk)) b i nk c fun x c=>keF sp r row b i nk (pos+1) c fun xs c=>K (x :: xs) c
end
def kbl:List X->List Nat->List Nat
 | [],acc=>acc
 | x :: r,acc =>
  match x with
  | .own κ _ _ _=>κ :: kbl r acc
  | _=>kbl r acc
def kas:List (List Lf × List X)->List Nat
 | []=>[]
 | (_,row) :: r=>kbl row (kas r)
def kdA:List (List X)->List Nat
 | []=>[]
 | row :: r=>kbl row (kdA r)
def allL (L:Nat->Bool):List Nat->Bool
 | []=>true
 | k :: r=>cond (L k) (allL L r) false
def kkx:List Nat->Bool
 | []=>true
 | k :: r=>cond (hasN k r) false (kkx r)
def renR (fb fk:Nat->Option Nat):List (List Lf × List X)->List (List Lf × List X)
 | []=>[]
 | (sh,row) :: r=>(sh,X.renL fb fk row) :: renR fb fk r
def kjp (fb fk:Nat->Option Nat):List (List X)->List (List X)
 | []=>[]
 | row :: r=>X.renL fb fk row :: kjp fb fk r
end Go.Proofs.YtaphnbaiamnfpaaGreatDoor.Ps
