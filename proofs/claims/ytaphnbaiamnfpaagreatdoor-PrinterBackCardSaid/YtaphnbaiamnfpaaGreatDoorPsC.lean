/- What the forms of the small language do, on plain data. -/
import Derived.Test.YtaphnbaiamnfpaaGreatDoorPsB
namespace Go.Proofs.YtaphnbaiamnfpaaGreatDoor.Ps
set_option linter.unusedVariables false
set_option linter.unusedSimpArgs false
open Go Go.RowKit
def ev (E:Nat->V):SArg->V
 | .t n=>E n
 | .k v=>v
def evL (E:Nat->V):List SArg->List V
 | []=>[]
 | a :: r=>ev E a :: evL E r
def dv (d:D):V:=.one (.d d)
def beqL:List UInt8->List UInt8->Bool
 | [],[]=>true
 | a :: x,b :: y=>cond (Nat.beq a.toNat b.toNat) (beqL x y) false
 | _,_=>false
def sbeq (a b:ByteArray):Bool:=beqL a.data.toList b.data.toList
def sless (a b:ByteArray):Bool:=Op.bytesLess a.data.toList b.data.toList
def i64 (n:Nat):V:=dv (.int .i64 (n:Int))
section
variable {α:Type}
def kky (k:IntKind) (op:BinOp) (a b:Int) (K:D->Option α):Option α :=
 match op with
 | .add=>K (.int k (k.wrap (a+b)))
 | .sub=>K (.int k (k.wrap (a - b)))
 | .mul=>K (.int k (k.wrap (a*b)))
 | .quo=>cond (decide (b=0)) none (K (.int k (k.wrap (a.tdiv b))))
 | .rem=>cond (decide (b=0)) none (K (.int k (a.tmod b)))
 | .eql=>K (.bool (a==b))
 | .neq=>K (.bool (a != b))
 | .lss=>K (.bool (decide (a < b)))
 | .leq=>K (.bool (decide (a<=b)))
 | .gtr=>K (.bool (decide (a > b)))
 | .geq=>K (.bool (decide (a ≥ b)))
 | _=>none
def kkz (op:BinOp) (a b:ByteArray) (K:D->Option α):Option α :=
 match op with
 | .add=>cond (Nat.ble (a.size+b.size) 9223372036854775807) (K (.str (a++b))) none
 | .eql=>K (.bool (sbeq a b))
 | .neq=>K (.bool (!sbeq a b))
 | .lss=>K (.bool (sless a b))
 | .leq=>K (.bool (sless a b || sbeq a b))
 | .gtr=>K (.bool (!(sless a b || sbeq a b)))
 | .geq=>K (.bool (!sless a b))
 | _=>none
def kkA (op:BinOp) (a b:Bool) (K:D->Option α):Option α :=
 match op with
 | .eql=>K (.bool (a==b))
 | .neq=>K (.bool (!(a==b)))
 | _=>none
def kdB (E:Nat->V):List (Nat × Nat × SArg)->List X->(List X->Option α)->Option α
 | [],cs,K=>K cs
 | (off,n,a) :: r,cs,K=>keE (ev E a) fun p=>cond (Nat.beq p.length n&&Nat.ble (off+n) cs.length) (kdB E r (kee cs off p) K) none
def litK (E:Nat->V) (sz:Nat):List SArg->(List (List D)->Option α)->Option α
 | [],K=>K []
 | a :: r,K=>keE (ev E a) fun p=>cond (Nat.beq p.length sz) (gDs p fun row=>litK E sz r fun rows=>K (row :: rows)) none
def gPtr (v:V) (Kp:Nat->Nat->Option α) (Kr:Nat->List D->Nat->Option α):Option α :=
 match v with
 | .one (.ptr b off)=>Kp b off
 | .one (.rptr sz row off)=>Kr sz row off
 | _=>none
def gBlk (b:Option Blk) (K:Blk->Option α):Option α :=
 match b with
 | some x=>K x
 | none=>none
def optK (E:Nat->V) (d:Int) (a:Option SArg) (K:Int->Option α):Option α :=
 match a with
 | some x=>gInt .i64 (ev E x) K
 | none=>K d
def khy (E:Nat->V):List SArg->(List X->Option α)->Option α
 | [],K=>K []
 | a :: r,K =>
  match ev E a with
  | .one x=>khy E r fun xs=>K (x :: xs)
  | _=>none
def eqLs:List Lf->List X->List X->(Bool->Option α)->Option α
 | [],_,_,K=>K true
 | l :: r,x :: xs,y :: ys,K =>
  match l with
  | .int k=>gInt k (.one x) fun a=>gInt k (.one y) fun b=>eqLs r xs ys fun q=>K ((a==b)&&q)
  | .bool=>kev (.one x) fun a=>kev (.one y) fun b=>eqLs r xs ys fun q=>K ((a==b)&&q)
  | .str=>gStr (.one x) fun a=>gStr (.one y) fun b=>eqLs r xs ys fun q=>K (sbeq a b&&q)
  | _=>none
 | _,_,_,_=>none
def bytesOf:List (List D)->(List UInt8->Option α)->Option α
 | [],K=>K []
 | r :: rs,K=>gInt .u8 (dv (dat r 0)) fun n=>bytesOf rs fun s=>K (UInt8.ofNat n.toNat :: s)
def kfZ (H:Nat->Option Blk):List Nat->(List Blk->List (List Lf × List X)->Option α)->Option α
 | [],K=>K [] []
 | b :: r,K=>gBlk (H b) fun x=>gHs x.sh x.row fun row=>kfZ H r fun bs rows=>K (x :: bs) ((x.sh,row) :: rows)
def klM (l:Lf) (x:X) (c:Nat) (K:X->Nat->Option α):Option α :=
 match l with
 | .own e sz=>cond (x.isOwn e sz&&Nat.beq x.key c) (K (.own c e sz x.orows) (c+1)) none
 | l=>kjo l x fun y=>K y c
def khz (ls:List Lf) (v:V) (i c:Nat) (K:List X->Nat->Option α):Option α :=
 match ls with
 | []=>K [] c
 | l :: r=>klM l (X.cell v i) c fun x c=>khz r v (i+1) c fun xs c=>K (x :: xs) c
mutual
def kf0 (s:Sh) (v:V) (c:Nat) (K:V->Nat->Option α):Option α :=
 match s with
 | .one l=>cond v.isOne (klM l (X.cell v 0) c fun x c=>K (.one x) c) none
 | .agg ls=>cond (v.isAgg ls.length) (khz ls v 0 c fun xs c=>K (.agg xs) c) none
 | .tup ss=>cond (v.isTup ss.length) (kfp ss v 0 c fun xs c=>K (.tup xs) c) none
 | .none=>K .junk c
def kfp (ss:List Sh) (v:V) (i c:Nat) (K:List V->Nat->Option α):Option α :=
 match ss with
 | []=>K [] c
 | s :: r=>kf0 s (v.comp i) c fun x c=>kfp r v (i+1) c fun xs c=>K (x :: xs) c
end
def kjq (sp:Bool):List Nat->List Blk->List (List X)->Nat->Nat->Nat->(List (Nat × Blk)->Nat->Option α)->Option α
 | [],_,_,_,_,c,K=>K [] c
 | b :: r,x :: bs,rows,i,nk,c,K=>keF sp x.sh (rows.getD i []) b i nk 0 c fun xs c=>kjq sp r bs rows (i+1) nk c fun hw c=>K ((b,⟨x.sh,xs⟩) :: hw) c
 | _,_,_,_,_,_,_=>none
def kbs:Nat->Nat->List Nat
 | _,0=>[]
 | i,n+1=>i :: kbs (i+1) n
end
abbrev SemL:=FuncId->List V->List (List Lf × List X)->Option Out
section
variable {α:Type} (Γ:SemL) (shp:FuncId->Sh)
def kc9 (f:FuncId) (vs:List V) (H:Nat->Option Blk) (L:Nat->Bool) (nk:Nat) (K:Patch->Option α) (Kp:D->List (Nat × Blk)->Option α):Option α :=
 kfZ H (V.idsL vs []) fun blks rows =>
  cond (allL L (kas rows)&&kkx (kas rows))
   ((Γ f (V.renL (fun b=>idx b (V.idsL vs []) 0) (fun _=>none) vs) (renR (fun b=>idx b (V.idsL vs []) 0) (fun κ=>idx κ (kas rows) 0) rows)).bind fun o =>
    kjq (spends f) (V.idsL vs []) blks o.rows 0 nk 0 fun hw c0 =>
     cond o.ok (kf0 (shp f) o.val c0 fun x c=>cond (Nat.ble c o.m&&Nat.ble c 16) (K ⟨x.ren (fun _=>none) (fun κ=>cond (Nat.blt κ c) (some (nk+κ)) none),hw,kas rows,kbs nk c⟩) none)
      (cond (Nat.beq c0 0&&(kas rows).isEmpty) (Kp o.pv hw) none)) none
def aopK (o:SOp) (nb nk:Nat) (w:View) (K:Patch->Option α) (Kp:D->List (Nat × Blk)->Option α):Option α :=
 match o with
 | .mov x=>K ⟨ev w.env x,[],[],[]⟩
 | .pick c a b=>kev (ev w.env c) fun t=>cond t (K ⟨ev w.env a,[],[],[]⟩) (K ⟨ev w.env b,[],[],[]⟩)
 | .alloc sh row=>K ⟨.one (.ptr nb 0),[(nb,⟨sh,row⟩)],[],[]⟩
 | .box sh x=>keE (ev w.env x) fun cs=>K ⟨.one (.ptr nb 0),[(nb,⟨sh,cs⟩)],[],[]⟩
 | .build zero parts=>kdB w.env parts zero fun cs=>K ⟨.agg cs,[],[],[]⟩
 | .lit e sz parts=>litK w.env sz parts fun rows=>K ⟨.one (.own nk e sz rows),[],[],[nk]⟩
 | .load true n a=>gPtr (ev w.env a)
  (fun b off=>gBlk (w.heap b) fun x=>cond (Nat.ble (off+n) x.row.length) (K ⟨.agg ((x.row.drop off).take n),[],[],[]⟩) none)
  (fun sz row off=>cond (Nat.ble (off+n) sz) (K ⟨.agg (rcells row off n),[],[],[]⟩) none)
 | .load false n a=>gPtr (ev w.env a)
  (fun b off=>gBlk (w.heap b) fun x=>cond (Nat.blt off x.row.length) (K ⟨.one (x.row.getD off (.d .junk)),[],[],[]⟩) none)
  (fun sz row off=>cond (Nat.blt off sz) (K ⟨dv (dat row off),[],[],[]⟩) none)
 | .store n a x=>gPtr (ev w.env a)
  (fun b off=>gBlk (w.heap b) fun blk=>keE (ev w.env x) fun cs=>cond (Nat.beq cs.length n&&Nat.ble (off+n) blk.row.length)
   (K ⟨.junk,[(b,⟨blk.sh,kee blk.row off cs⟩)],[],[]⟩) none)
  (fun _ _ _=>none)
 | .faddr off x=>gPtr (ev w.env x) (fun b o=>K ⟨.one (.ptr b (o+off)),[],[],[]⟩) (fun sz row o=>K ⟨.one (.rptr sz row (o+off)),[],[],[]⟩)
 | .field true off n x =>
  match ev w.env x with
  | .agg cs=>cond (Nat.ble (off+n) cs.length) (K ⟨.agg ((cs.drop off).take n),[],[],[]⟩) none
  | _=>none
 | .field false off n x =>
  match ev w.env x with
  | .agg cs=>cond (Nat.blt off cs.length) (K ⟨.one (cs.getD off (.d .junk)),[],[],[]⟩) none
  | _=>none
 | .iaddr sz x i=>kfo sz (ev w.env x) fun rows=>gInt .i64 (ev w.env i) fun n =>
  cond (decide (0<=n)&&decide (n < (rows.length:Int))) (K ⟨.one (.rptr sz (rows.getD n.toNat []) 0),[],[],[]⟩) none
 | .aaddr len sz x i=>gPtr (ev w.env x)
  (fun b off=>gInt .i64 (ev w.env i) fun n=>cond (decide (0<=n)&&decide (n < (len:Int))) (K ⟨.one (.ptr b (off+n.toNat*sz)),[],[],[]⟩) none)
  (fun sz' row off=>gInt .i64 (ev w.env i) fun n=>cond (decide (0<=n)&&decide (n < (len:Int))) (K ⟨.one (.rptr sz' row (off+n.toNat*sz)),[],[],[]⟩) none)
 | .chr x i=>gStr (ev w.env x) fun s=>gInt .i64 (ev w.env i) fun n =>
  cond (decide (0<=n)&&decide (n < (s.size:Int))) (K ⟨dv (.int .u8 ((s.get! n.toNat).toNat:Int)),[],[],[]⟩) none
 | .sub x lo hi=>gStr (ev w.env x) fun s=>optK w.env (s.size:Int) hi fun h=>optK w.env 0 lo fun l =>
  cond (decide (0<=h)&&decide (h<=(s.size:Int))&&decide (0<=l)&&decide (l<=h)) (K ⟨dv (.str (s.extract l.toNat h.toNat)),[],[],[]⟩) none
 | .subl sz x lo hi=>kfo sz (ev w.env x) fun s=>optK w.env (s.length:Int) hi fun h=>optK w.env 0 lo fun l =>
  cond (decide (0<=h)&&decide (h<=(s.length:Int))&&decide (0<=l)&&decide (l<=h)) (K ⟨dv (.list sz ((s.take h.toNat).drop l.toNat)),[],[],[]⟩) none
 | .ibin k op x y=>gInt k (ev w.env x) fun a=>gInt k (ev w.env y) fun b=>kky k op a b fun d=>K ⟨dv d,[],[],[]⟩
 | .sbin op x y=>gStr (ev w.env x) fun a=>gStr (ev w.env y) fun b=>kkz op a b fun d=>K ⟨dv d,[],[],[]⟩
 | .bbin op x y=>kev (ev w.env x) fun a=>kev (ev w.env y) fun b=>kkA op a b fun d=>K ⟨dv d,[],[],[]⟩
 | .inil neg x =>
  match ev w.env x with
  | .one (.d d)=>cond d.isNilI (K ⟨dv (.bool (!neg)),[],[],[]⟩) (cond d.isI (K ⟨dv (.bool neg),[],[],[]⟩) none)
  | _=>none
 | .aeq neg ls x y =>
  match ev w.env x,ev w.env y with
  | .agg xs,.agg ys=>cond (Nat.beq xs.length ls.length&&Nat.beq ys.length ls.length) (eqLs ls xs ys fun q=>K ⟨dv (.bool (cond neg (!q) q)),[],[],[]⟩) none
  | _,_=>none
 | .inot x=>kev (ev w.env x) fun a=>K ⟨dv (.bool (!a)),[],[],[]⟩
 | .ineg k x=>gInt k (ev w.env x) fun a=>K ⟨dv (.int k (k.wrap (0 - a))),[],[],[]⟩
 | .conv k k' x=>gInt k (ev w.env x) fun a=>K ⟨dv (.int k' (k'.wrap a)),[],[],[]⟩
 | .bstr x=>kfo 1 (ev w.env x) fun rows=>bytesOf rows fun s=>K ⟨dv (.str ⟨s.toArray⟩),[],[],[]⟩
 | .mkI t x =>
  match ev w.env x with
  | .agg cs=>gDs cs fun row=>K ⟨dv (.iface t row),[],[],[]⟩
  | _=>none
 | .mkF f caps=>khy w.env caps fun xs=>K ⟨.one (.fn f xs),[],[],[]⟩
 | .ext x i =>
  match ev w.env x with
  | .tup vs=>cond (Nat.blt i vs.length) (K ⟨vs.getD i .junk,[],[],[]⟩) none
  | _=>none
 | .len true x=>gStr (ev w.env x) fun s=>K ⟨i64 s.size,[],[],[]⟩
 | .len false x =>
  match ev w.env x with
  | .one (.d d)=>cond d.isL (K ⟨i64 d.rows.length,[],[],[]⟩) none
  | .one (.own _ _ _ rows)=>K ⟨i64 rows.length,[],[],[]⟩
  | .one (.nilL _)=>K ⟨i64 0,[],[],[]⟩
  | _=>none
 | .mnmx mx x y=>gInt .i64 (ev w.env x) fun a=>gInt .i64 (ev w.env y) fun b=>K ⟨dv (.int .i64 (cond mx (if a < b then b else a) (if b < a then b else a))),[],[],[]⟩
 | .app e sz bytes x y=>kfo sz (ev w.env y) fun new=>cond (!new.isEmpty)
  (match ev w.env x with
  | .one (.own κ e' s rows)=>cond (w.live κ&&Nat.beq e' e&&Nat.beq s sz&&Nat.ble ((rows.length+new.length)*(bytes+1)) 140737488355328)
   (K ⟨.one (.own nk e sz (rows++new)),[],[κ],[nk]⟩) none
  | .one (.nilL _)=>cond (Nat.ble (new.length*(bytes+1)) 140737488355328) (K ⟨.one (.own nk e sz new),[],[],[nk]⟩) none
  | _=>none) none
 | .call f args=>kc9 Γ shp f (evL w.env args) w.heap w.live nk K Kp
 | .callv x args =>
  match ev w.env x with
  | .one (.fn f caps)=>kc9 Γ shp f (evL w.env args++caps.map .one) w.heap w.live nk K Kp
  | _=>none
 | .nchk x =>
  match ev w.env x with
  | .one (.ptr b off)=>K ⟨.one (.ptr b off),[],[],[]⟩
  | .one (.rptr sz row off)=>K ⟨.one (.rptr sz row off),[],[],[]⟩
  | _=>none
 | .pan x =>
  match ev w.env x with
  | .one (.d d)=>cond d.isI (Kp d []) none
  | _=>none
 | .allocB e=>K ⟨.one (.ptr nb 0),[(nb,⟨[.slf,.own e 1],[.slf nb,.own nk e 1 []]⟩)],[],[nk]⟩
 | .boxB e x=>keE (ev w.env x) fun cs =>
  match cs with
  | [.d .nilP,.nilL 1]=>K ⟨.one (.ptr nb 0),[(nb,⟨[.slf,.own e 1],[.slf nb,.own nk e 1 []]⟩)],[],[nk]⟩
  | _=>none
 | .dfr f args=>K ⟨.junk,[],[],[]⟩
 | .dfrv x args =>
  match ev w.env x with
  | .one (.fn f caps)=>K ⟨.junk,[],[],[]⟩
  | _=>none
def SOp.dfs (E:Nat->V):SOp->List (FuncId × List V)
 | .dfr f args=>[(f,evL E args)]
 | .dfrv x args =>
  match ev E x with
  | .one (.fn f caps)=>[(f,evL E args++caps.map .one)]
  | _=>[]
 | _=>[]
def SOper.dfs (o:SOper) (E:Nat->V):List (FuncId × List V) :=
 match o.guard with
 | none=>o.op.dfs E
 | some _=>[]
def SOp.isDf:SOp->Bool
 | .dfr _ _=>true
 | .dfrv _ _=>true
 | _=>false
def St.apply (s:St) (dst:Option Nat) (p:Patch):St :=
 { s with env:=(match dst with | some d=>(d,p.x) :: s.env | none=>s.env),heap:=p.hw++s.heap,live:=p.born++s.live.filter (fun κ=>!hasN κ p.kill) }
def SOp.feet (E:Nat->V):SOp->List Nat
 | .load _ _ a=>V.idsL [ev E a] []
 | .store _ a _=>V.idsL [ev E a] []
 | .call _ args=>V.idsL (evL E args) []
 | .callv x args =>
  match ev E x with
  | .one (.fn _ caps)=>V.idsL (evL E args++caps.map .one) []
  | _=>[]
 | _=>[]
def SArg.slots:SArg->List Nat
 | .t n=>[n]
 | .k _=>[]
def SOp.args:SOp->List SArg
 | .mov x | .box _ x | .boxB _ x | .load _ _ x | .faddr _ x | .field _ _ _ x | .inil _ x | .inot x | .ineg _ x | .conv _ _ x | .bstr x | .mkI _ x | .ext x _ | .len _ x | .nchk x | .pan x=>[x]
 | .pick c a b=>[c,a,b]
 | .alloc _ _=>[]
 | .allocB _=>[]
 | .dfr _ args=>args
 | .dfrv x args=>x :: args
 | .build _ ps=>ps.map (·.2.2)
 | .lit _ _ ps=>ps
 | .store _ a x | .iaddr _ a x | .aaddr _ _ a x | .chr a x | .ibin _ _ a x | .sbin _ a x | .bbin _ a x | .aeq _ _ a x | .mnmx _ a x | .app _ _ _ a x=>[a,x]
 | .sub x lo hi | .subl _ x lo hi=>x :: (lo.toList++hi.toList)
 | .mkF _ caps=>caps
 | .call _ args=>args
 | .callv x args=>x :: args
def SOper.sees (o:SOper):List Nat:=(o.op.args.flatMap SArg.slots)++(match o.guard with | some (_,s,_)=>[s] | none=>[])
def kpm (o:SOper) (i:Nat) (s:St) (K:Patch->St->Option α) (Kp:D->St->Option α):Option α :=
 let run (s:St):Option α:=aopK Γ shp o.op (s.nb+i) (s.nk+16*i) s.view (fun p=>K p { s.apply o.dst p with dfs:=o.dfs (fun t=>look t s.env)++s.dfs }) (fun d hw=>Kp d { s with heap:=hw++s.heap })
 let skip (s:St):Option α:=K ⟨.tup [],[],[],[]⟩ (s.apply o.dst ⟨.tup [],[],[],[]⟩)
 match o.guard with
 | none=>run s
 | some (_,t,want) =>
  match look t s.env with
  | .tup vs=>cond vs.isEmpty (skip s) none
  | .one x=>kev (.one x) fun b =>
   cond b (cond want (run { s with env:=(t,dv (.bool true)) :: s.env }) (skip { s with env:=(t,dv (.bool true)) :: s.env }))
    (cond want (skip { s with env:=(t,dv (.bool false)) :: s.env }) (run { s with env:=(t,dv (.bool false)) :: s.env }))
  | _=>none
def kfq (v:V) (want:Bool) (K:Bool->Option α):Option α :=
 match v with
 | .tup vs=>cond vs.isEmpty (K (!want)) none
 | .one x=>kev (.one x) K
 | _=>none
structure Foot where
 dst:Option Nat
 sees:List Nat
 rb:List Nat
 wb:List Nat
 ks:List Nat
deriving Inhabited
def kfr:List Nat->List Nat->Bool
 | [],_=>true
 | x :: r,ys=>cond (hasN x ys) false (kfr r ys)
def Foot.apart (x y:Foot):Bool :=
 kfr x.dst.toList (y.sees++y.dst.toList)&&kfr y.dst.toList x.sees&&kfr x.wb (y.rb++y.wb)&&kfr y.wb x.rb&&kfr x.ks y.ks
def kbV (afters:List (List Nat)):List Nat :=
 afters.foldl (fun acc a=>acc++[a.foldl (fun s j=>s ||| (2 ^ j ||| acc.getD j 0)) 0]) []
def kcS:List (List Nat)->Nat->Bool
 | [],_=>true
 | a :: r,i=>a.all (fun k=>Nat.blt k i)&&kcS r (i+1)
def kf1 (fs:List Foot) (ah:List Nat):Bool :=
 (List.range fs.length).all fun j=>(List.range j).all fun i=>cond ((ah.getD j 0).testBit i) true ((fs.getD i default).apart (fs.getD j default))
def St.fall (s:St):St:={ s with env:=[],live:=[],heap:=s.heap.filter fun x=>Nat.blt x.1 s.nb }
def opsT:List SOper->Nat->St->(St->Option α)->(D->St->Option α)->Option α
 | [],i,s,K,Kp=>K { s with nb:=s.nb+i,nk:=s.nk+16*i }
 | o :: r,i,s,K,Kp=>kpm Γ shp o i s (fun _ s'=>opsT r (i+1) s' K Kp) (fun d s'=>Kp d s')
def Foot.of (E:Nat->V) (o:SOper) (p:Patch):Foot:=⟨o.dst,o.sees,o.op.feet E,p.hw.map (·.1),p.kill++p.born⟩
def Foot.none:Foot:=⟨Option.none,[],[],[],[]⟩
def kq3 (fs:List Foot) (ah:List Nat) (j nb:Nat):Bool :=
 (List.range fs.length).all fun i=>cond (Nat.beq i j) true (cond ((ah.getD j 0).testBit i) true ((fs.getD i default).wb.all fun b=>Nat.ble nb b))
def opsD (ah:List Nat):List SOper->Nat->St->List Foot->Option (Nat × D × St)->(St->Option α)->(D->St->Option α)->Option α
 | [],i,s,fs,pn,K,Kp=>cond (kf1 fs ah)
  (match pn with
  | none=>K { s with nb:=s.nb+i,nk:=s.nk+16*i }
  | some (j,d,s1)=>cond (kq3 fs ah j s.nb) (Kp d s1) none) none
 | o :: r,i,s,fs,pn,K,Kp =>
  match pn with
  | none=>kpm Γ shp o i s (fun p s'=>opsD ah r (i+1) s' (fs++[Foot.of (fun t=>look t s.env) o p]) none K Kp)
   (fun d s'=>opsD ah r (i+1) s (fs++[⟨Option.none,o.sees,o.op.feet (fun t=>look t s.env),[],[]⟩]) (some (i,d,s'.fall)) K Kp)
  | some (j,d,s1)=>cond ((ah.getD i 0).testBit j) (opsD ah r (i+1) s (fs++[Foot.none]) (some (j,d,s1)) K Kp)
   (kpm Γ shp o i s (fun p s'=>opsD ah r (i+1) s' (fs++[Foot.of (fun t=>look t s.env) o p]) (some (j,d,s1)) K Kp) (fun _ _=>none))
end
inductive SExit where
 | norm
 | exit (id:Nat)
 | ret
 | pan (d:D)
deriving Inhabited
mutual
def X.keys (live:List Nat):X->List Nat->List Nat
 | .own κ _ _ _,acc=>cond (hasN κ live) (cond (hasN κ acc) acc (acc++[κ])) acc
 | .fn _ caps,acc=>X.keysL live caps acc
 | _,acc=>acc
def X.keysL (live:List Nat):List X->List Nat->List Nat
 | [],acc=>acc
 | x :: r,acc=>X.keysL live r (x.keys live acc)
end
mutual
def V.keys (live:List Nat):V->List Nat->List Nat
 | .one x,acc=>x.keys live acc
 | .agg cs,acc=>X.keysL live cs acc
 | .tup vs,acc=>V.keysL live vs acc
 | .junk,acc=>acc
def V.keysL (live:List Nat):List V->List Nat->List Nat
 | [],acc=>acc
 | x :: r,acc=>V.keysL live r (x.keys live acc)
end
def kgD (env:List (Nat × V)):List Nat->List V
 | []=>[]
 | t :: r=>look t env :: kgD env r
def kpn (heap:List (Nat × Blk)):List Nat->List (Option Blk)
 | []=>[]
 | b :: r=>kaI b heap :: kpn heap r
def kkB (live:List Nat):List (Option Blk)->List Nat->List Nat
 | [],acc=>acc
 | some x :: r,acc=>kkB live r (X.keysL live x.row acc)
 | none :: r,acc=>kkB live r acc
def renE (fb fk:Nat->Option Nat):List Nat->List V->List (Nat × V)
 | t :: ts,v :: vs=>(t,v.ren fb fk) :: renE fb fk ts vs
 | _,_=>[]
def renB (fb fk:Nat->Option Nat):Nat->List (Option Blk)->List (Nat × Blk)
 | _,[]=>[]
 | i,some x :: r=>(i,⟨x.sh,X.renL fb fk x.row⟩) :: renB fb fk (i+1) r
 | i,none :: r=>renB fb fk (i+1) r
def kAx (fb fk:Nat->Option Nat):List (FuncId × List V)->List (FuncId × List V)
 | []=>[]
 | (f,vs) :: r=>(f,V.renL fb fk vs) :: kAx fb fk r
def St.norm (live:List Nat) (s:St):St :=
 let vs:=kgD s.env live
 let ids:=V.idsL vs (kbs 0 s.np)
 let bs:=kpn s.heap ids
 let ks:=kkB s.live bs (V.keysL s.live vs [])
 let fb:=fun b=>idx b ids 0
 let fk:=fun κ=>idx κ ks 0
 { env:=renE fb fk live vs,heap:=renB fb fk 0 bs,live:=kbs 0 ks.length,nb:=ids.length,nk:=ks.length,np:=s.np,dfs:=kAx fb fk s.dfs }
abbrev St.normO (s:St):Option (List Nat)->St
 | none=>s
 | some l=>s.norm l
section
variable {α:Type} (Γ:SemL) (shp:FuncId->Sh)
abbrev kSeq (lo:Option (List Nat)) (B:St->(SExit->St->Option α)->Option α) (K:SExit->St->Option α) (e:SExit) (s:St):Option α :=
 match e with
 | .norm=>B (s.normO lo) K
 | .exit id=>K (.exit id) s
 | .ret=>K .ret s
 | .pan d=>K (.pan d) s
abbrev sel (c:Bool) (a b:Option α):Option α :=
 match c with
 | true=>a
 | false=>b
abbrev kBlk (id:Nat) (K:SExit->St->Option α) (e:SExit) (s:St):Option α :=
 match e with
 | .exit id'=>sel (Nat.beq id' id) (K .norm s) (K (.exit id') s)
 | .norm=>K .norm s
 | .ret=>K .ret s
 | .pan d=>K (.pan d) s
abbrev kup (L:List Nat->SCode->St->(SExit->St->Option α)->Option α) (live:List Nat) (c:SCode) (K:SExit->St->Option α) (e:SExit) (s:St):Option α :=
 match e with
 | .norm=>L live c (s.norm live) K
 | .exit id=>K (.exit id) s
 | .ret=>K .ret s
 | .pan d=>K (.pan d) s
def kbC (L:List Nat->SCode->St->(SExit->St->Option α)->Option α):SCode->St->(SExit->St->Option α)->Option α
 | .skip,s,K=>K .norm s
 | .region false ops,s,K=>opsT Γ shp ops 0 s (fun s=>K .norm s) (fun d s=>K (.pan d) s)
 | .region true ops,s,K=>cond (kcS (ops.map (·.after)) 0) (opsD Γ shp (kbV (ops.map (·.after))) ops 0 s [] none (fun s=>K .norm s) (fun d s=>K (.pan d) s)) none
 | .seq lo a b,s,K=>kbC L a s (kSeq lo (fun s K=>kbC L b s K) K)
 | .cond c a b,s,K=>kev (ev (fun t=>look t s.env) c) fun t=>cond t (kbC L a s K) (kbC L b s K)
 | .block id c,s,K=>kbC L c s (kBlk id K)
 | .loop live c,s,K=>L live c (s.norm live) K
 | .exit id,s,K=>K (.exit id) s
 | .ret,s,K=>K .ret s
def kdH:Nat->List Nat->SCode->St->(SExit->St->Option α)->Option α
 | 0,_,_,_,_=>none
 | n+1,live,c,s,K=>kbC Γ shp (kdH n) c s (kup (kdH n) live c K)
end
def resK {α:Type} (s:St):List SRes->(List V->Option α)->Option α
 | [],K=>K []
 | .tmp t :: r,K=>resK s r fun vs=>K (look t s.env :: vs)
 | .cell true n t :: r,K=>gPtr (look t s.env)
  (fun b off=>gBlk (kaI b s.heap) fun x=>cond (Nat.beq off 0&&Nat.beq n x.row.length) (resK s r fun vs=>K (.agg x.row :: vs)) none) (fun _ _ _=>none)
 | .cell false n t :: r,K=>gPtr (look t s.env)
  (fun b off=>gBlk (kaI b s.heap) fun x=>cond (Nat.blt off x.row.length) (resK s r fun vs=>K (.one (x.row.getD off (.d .junk)) :: vs)) none) (fun _ _ _=>none)
def kpo:List V->V
 | [v]=>v
 | vs=>.tup vs
def kf2 {α:Type} (s:St):Nat->Nat->(List (List X)->Option α)->Option α
 | _,0,K=>K []
 | i,n+1,K=>gBlk (kaI i s.heap) fun x=>gHs x.sh x.row fun row=>kf2 s (i+1) n fun rows=>K (row :: rows)
def begE:Nat->List V->List (Nat × V)
 | _,[]=>[]
 | i,v :: r=>(i,v) :: begE (i+1) r
def begX:List D->List X
 | []=>[]
 | d :: r=>.d d :: begX r
def begB:Nat->List (List Lf × List X)->List (Nat × Blk)
 | _,[]=>[]
 | i,(sh,row) :: r=>(i,⟨sh,row⟩) :: begB (i+1) r
def X.plain:X->X
 | .own _ _ sz rows=>.d (.list sz rows)
 | .nilL sz=>.d (.list sz [])
 | x=>x
def X.plainL:List X->List X
 | []=>[]
 | x :: r=>x.plain :: X.plainL r
mutual
def V.plain:V->V
 | .one x=>.one x.plain
 | .agg cs=>.agg (X.plainL cs)
 | .tup vs=>.tup (V.plainL vs)
 | .junk=>.junk
def V.plainL:List V->List V
 | []=>[]
 | x :: r=>x.plain :: V.plainL r
end
def Lf.owns:Lf->Bool
 | .own _ _=>true
 | .nil _=>true
 | _=>false
def Lf.ownsL:List Lf->Bool
 | []=>false
 | l :: r=>cond l.owns true (Lf.ownsL r)
mutual
def Sh.owns:Sh->Bool
 | .one l=>l.owns
 | .agg ls=>Lf.ownsL ls
 | .tup ss=>Sh.ownsL ss
 | .none=>false
def Sh.ownsL:List Sh->Bool
 | []=>false
 | s :: r=>cond s.owns true (Sh.ownsL r)
end
def X.plainAt (l:Lf) (x:X):X :=
 match l with
 | .own _ _=>x
 | .nil _=>x
 | _=>x.plain
def X.plainLs:List Lf->List X->List X
 | _,[]=>[]
 | ls,x :: r=>x.plainAt (ls.headD .any) :: X.plainLs ls.tail r
mutual
def V.plainS:Sh->V->V
 | .one l,.one x=>.one (x.plainAt l)
 | .agg ls,.agg cs=>.agg (X.plainLs ls cs)
 | .tup ss,.tup vs=>.tup (V.plainSs ss vs)
 | _,v=>v.plain
def V.plainSs:List Sh->List V->List V
 | s :: ss,v :: vs=>V.plainS s v :: V.plainSs ss vs
 | [],vs=>V.plainL vs
 | _,[]=>[]
end
def dfrK {α:Type} (Γd:SemL) (rc:FuncId->Option TypeId):List (FuncId × List V)->St->(St->Option α)->Option α
 | [],s,K=>K s
 | (f,vs) :: r,s,K =>
  match rc f with
  | some _=>cond (Nat.beq vs.length 1) (dfrK Γd rc r s K) none
  | none=>kc9 Γd (fun _=>.none) f vs s.view.heap s.view.live s.nk (fun p=>dfrK Γd rc r { s.apply none p with nb:=s.nb+1,nk:=s.nk+16 } K) (fun _ _=>none)
def endK (sh:Sh) (results:List SRes) (np:Nat) (s:St):Option Out :=
 resK s results fun vs=>kf2 s 0 np fun rs =>
  cond (allL s.view.live (kdA rs)&&kkx (kdA rs))
   (some ⟨true,(V.plainS sh (kpo vs)).ren (fun _=>none) (fun κ=>idx κ ((V.plainS sh (kpo vs)).keys s.live (kdA rs)) 0),.junk,
    kjp (fun b=>cond (Nat.blt b np) (some b) none) (fun κ=>idx κ ((V.plainS sh (kpo vs)).keys s.live (kdA rs)) 0) rs,((V.plainS sh (kpo vs)).keys s.live (kdA rs)).length⟩) none
def D.isIf:D->Bool
 | .iface _ _=>true
 | _=>false
def D.ity:D->Nat
 | .iface t _=>t
 | _=>0
def D.irow:D->List D
 | .iface _ r=>r
 | _=>[]
def recK {α:Type} (rc:FuncId->Option TypeId) (d:D) (s:St) (K:St->Option α):Option α :=
 match s.dfs with
 | [(f,[.one (.ptr b 0)])] =>
  match rc f with
  | some t=>cond (d.isIf&&Nat.beq d.ity t) (gBlk (kaI b s.heap) fun x=>cond (Nat.beq d.irow.length 4&&Nat.beq x.row.length 4&&Nat.beq (kbl x.row []).length 0)
   (keF false x.sh (begX d.irow) b 0 0 0 0 fun xs _=>K { s with heap:=(b,⟨x.sh,xs⟩) :: s.heap,dfs:=[] }) none) none
  | none=>none
 | _=>none
def finK (Γd:SemL) (rc:FuncId->Option TypeId) (df:Bool) (sh:Sh) (results:List SRes) (np:Nat) (e:SExit) (s:St):Option Out :=
 match e with
 | .exit _=>none
 | .pan d=>cond s.dfs.isEmpty (kf2 s 0 np fun rs=>cond (Nat.beq (kdA rs).length 0) (some ⟨false,.junk,d,kjp (fun b=>cond (Nat.blt b np) (some b) none) (fun κ=>idx κ [] 0) rs,0⟩) none)
  (cond df none (recK rc d s fun s=>endK sh results np s))
 | .norm | .ret=>cond s.dfs.isEmpty (endK sh results np s) (cond df none (dfrK Γd rc s.dfs s fun s=>endK sh results np s))
def runF (G:Bool->SemL) (shp:FuncId->Sh) (rc:FuncId->Option TypeId) (df:Bool) (sh:Sh) (fn:SFunc) (n:Nat) (args:List V) (rows:List (List Lf × List X)):Option Out :=
 kbC (G false) shp (kdH (G false) shp n) fn.body { env:=begE 0 args,heap:=begB 0 rows,live:=kas rows,nb:=rows.length,nk:=(kas rows).length,np:=rows.length,dfs:=[] } (finK (G true) rc df sh fn.results rows.length)
def AA (prog:FuncId->Option SFunc) (lib:SemL->SemL) (shp:FuncId->Sh) (rc:FuncId->Option TypeId):Nat->Bool->SemL
 | 0,_=>fun _ _ _=>none
 | k+1,df=>fun f args rows =>
  match prog f with
  | some fn=>cond (Nat.beq args.length fn.nparams) (runF (AA prog lib shp rc k) shp rc df (shp f) fn k args rows) none
  | none=>cond df none (lib (AA prog lib shp rc k false) f args rows)
abbrev A (prog:FuncId->Option SFunc) (lib:SemL->SemL) (shp:FuncId->Sh) (rc:FuncId->Option TypeId) (k:Nat):SemL:=AA prog lib shp rc k false
end Go.Proofs.YtaphnbaiamnfpaaGreatDoor.Ps
