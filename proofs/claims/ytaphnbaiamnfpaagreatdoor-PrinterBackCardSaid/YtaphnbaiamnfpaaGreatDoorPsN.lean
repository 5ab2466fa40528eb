/- An operation of the model, put into the small language, does what the small language says. -/
import Derived.Test.YtaphnbaiamnfpaaGreatDoorPsM
namespace Go.Proofs.YtaphnbaiamnfpaaGreatDoor.Ps
set_option linter.unusedVariables false
set_option linter.unusedSimpArgs false
open Go Go.RowKit
section
variable (P:Program)
def optA (t:TypeId):Option Operand->Option (Option SArg)
 | none=>some none
 | some x=>match arg P t x with | some y=>some (some y) | none=>none
def ap2 {α β γ:Type} (f:α->β->γ) (x:Option α) (y:Option β):Option γ :=
 match x,y with
 | some a,some b=>some (f a b)
 | _,_=>none
def kyg:Operand->Bool
 | .const .nilIface=>true
 | _=>false
def bldT:Nat->TypeId->Option TypeId
 | 0,_=>none
 | d+1,t =>
  match P.underlying t with
  | some (.struct fs) =>
   match fs.toList with
   | [f]=>bldT d f.type
   | [f,h] =>
    match P.underlying f.type,P.underlying h.type with
    | some (.pointer _),some (.slice e)=>match P.underlying e with | some (.int .u8)=>some e | _=>none
    | _,_=>none
   | _=>none
  | _=>none
def bldZ (t:TypeId):Bool :=
 match P.info? t with
 | some i=>match i.zero with
  | some z=>match z.cells.toList with
   | [.pointer none,.slice none 0 0]=>true
   | _=>false
  | none=>false
 | none=>false
def comp (o:Oper):Option SOp :=
 match o.op with
 | .move x=>(arg P o.type x).map .mov
 | .assign x=>(arg P o.type x).map .mov
 | .pick c a b=>match arg P o.type c,arg P o.type a,arg P o.type b with | some c,some a,some b=>some (.pick c a b) | _,_,_=>none
 | .alloc e=>match bldT P 4 e with | some u=>cond (bldZ P e&&Nat.beq e kpk) (some (.allocB u)) none | none=>(zrow P e).map (.alloc (shT P 8 e))
 | .box e x=>match bldT P 4 e with | some u=>cond (Nat.beq e kpk) ((arg P e x).map (.boxB u)) none | none=>(arg P e x).map (.box (shT P 8 e))
 | .build t parts=>match P.underlying t with
  | some (.struct fs)=>match fs.toList.mapM (fun (f:Field)=>(P.info? f.type).map fun i=>(f.offset,i.size)) with
   | some _=>ap2 .build (zrow P t) (kkD P fs parts.toList)
   | none=>none
  | _=>none
 | .buildSlice t len parts=>match P.underlying t with
  | some (.slice e)=>match P.info? e with
   | some ti=>cond (Nat.ble (len*ti.size) 16777216&&Nat.ble len 16777216&&ti.zero.isSome&&Nat.beq parts.toList.length len) ((litC P e 0 parts.toList).map (.lit e ti.size)) none
   | none=>none
  | _=>none
 | .load t x=>match P.underlying t,P.info? t with | some d,some ti=>(arg P 0 x).map (.load (isAg d) ti.size) | _,_=>none
 | .store t x y=>match P.info? t with | some ti=>ap2 (.store ti.size) (arg P 0 x) (arg P t y) | none=>none
 | .fieldAddr s x i=>match P.underlying s with
  | some (.struct fs)=>match fs[i]? with
   | some f=>match P.info? f.type with
    | some ti=>cond (Nat.beq ti.size 0) none ((arg P 0 x).map (.faddr f.offset))
    | none=>none
   | none=>none
  | _=>none
 | .field s x i=>match P.underlying s with
  | some (.struct fs)=>match fs[i]? with
   | some f=>match P.underlying f.type,P.info? f.type with
    | some d,some ti=>(arg P s x).map (.field (isAg d) f.offset ti.size)
    | _,_=>none
   | none=>none
  | _=>none
 | .indexAddr t x i=>match P.underlying t with
  | some (.slice e)=>match P.info? e with | some ti=>ap2 (.iaddr ti.size) (arg P t x) (arg P 0 i) | none=>none
  | some (.array n e)=>match P.info? e with | some ti=>ap2 (.aaddr n ti.size) (arg P t x) (arg P 0 i) | none=>none
  | _=>none
 | .index t x i=>match P.underlying t with
  | some .string=>ap2 .chr (arg P t x) (arg P 0 i)
  | _=>none
 | .slice t x lo hi none=>match P.underlying t with
  | some .string=>match arg P t x,optA P 0 lo,optA P 0 hi with | some x,some lo,some hi=>some (.sub x lo hi) | _,_,_=>none
  | some (.slice e)=>match P.info? e with
   | some ti=>match arg P t x,optA P 0 lo,optA P 0 hi with | some x,some lo,some hi=>some (.subl ti.size x lo hi) | _,_,_=>none
   | none=>none
  | _=>none
 | .binOp op t x y _=>match P.underlying t with
  | some (.int k)=>ap2 (.ibin k op) (arg P t x) (arg P t y)
  | some .string=>ap2 (.sbin op) (arg P t x) (arg P t y)
  | some .bool=>ap2 (.bbin op) (arg P t x) (arg P t y)
  | some (.interface _)=>cond (kyg y) (match op with | .eql=>(arg P t x).map (.inil false) | .neq=>(arg P t x).map (.inil true) | _=>none) none
  | some (.struct fs)=>match eqC P 0 fs.toList with
   | some ls=>cond (P.stoodInHeld t || P.eqGuardType P.depth t) none (match op with | .eql=>ap2 (.aeq false ls) (arg P t x) (arg P t y) | .neq=>ap2 (.aeq true ls) (arg P t x) (arg P t y) | _=>none)
   | none=>none
  | _=>none
 | .unOp .not t x=>(arg P t x).map .inot
 | .unOp .neg t x=>match P.underlying t with | some (.int k)=>(arg P t x).map (.ineg k) | _=>none
 | .convert s t x=>match P.underlying s,P.underlying t with
  | some (.int k),some (.int k')=>(arg P s x).map (.conv k k')
  | some (.slice e),some .string=>match P.underlying e with | some (.int .u8)=>(arg P s x).map .bstr | _=>none
  | _,_=>none
 | .makeInterface t x=>cond (P.concrete t) ((arg P t x).map (.mkI t)) none
 | .makeFunc (.func f) first caps=>cond (Nat.beq first.size 0) ((args P [] caps.toList).map (.mkF f)) none
 | .extract x i=>(arg P 0 x).map fun y=>.ext y i
 | .nilCheck x=>(arg P 0 x).map .nchk
 | .call { callee:=.value (.func f),args:=xs,argTypes:=ts }=>(args P ts.toList xs.toList).map (.call f)
 | .call { callee:=.value x,args:=xs,argTypes:=ts }=>ap2 .callv (arg P 0 x) (args P ts.toList xs.toList)
 | .call { callee:=.builtin .len,args:=xs,argTypes:=ts }=>match xs.toList,ts.toList with
  | [x],[t]=>match P.underlying t with
   | some .string=>(arg P t x).map (.len true)
   | some (.slice _)=>(arg P t x).map (.len false)
   | _=>none
  | _,_=>none
 | .call { callee:=.builtin .min,args:=xs,argTypes:=ts }=>match xs.toList with
  | [x,y]=>ap2 (.mnmx false) (arg P 0 x) (arg P 0 y)
  | _=>none
 | .call { callee:=.builtin .max,args:=xs,argTypes:=ts }=>match xs.toList with
  | [x,y]=>ap2 (.mnmx true) (arg P 0 x) (arg P 0 y)
  | _=>none
 | .call { callee:=.builtin .append,args:=xs,argTypes:=ts }=>match xs.toList,ts.toList with
  | [x,y],[t,t']=>match P.underlying t with
   | some (.slice e)=>match P.info? e with
    | some ti=>match ti.zero with
     | some z=>cond (Nat.beq t t'&&Nat.beq z.cells.size ti.size&&Nat.blt 0 ti.size) (ap2 (.app e ti.size ti.bytes) (arg P t x) (arg P t y)) none
     | none=>none
    | none=>none
   | _=>none
  | _,_=>none
 | .panic x=>(arg P o.type x).map .pan
 | _=>none
end
theorem kbm {α β γ:Type} {f:α->β->γ} {x:Option α} {y:Option β} {r:γ} (h:ap2 f x y=some r):∃ a b,x=some a∧y=some b∧r=f a b:=by
 cases x<;>cases y<;>first | (cases h;done) | (cases h;exact ⟨_,_,rfl,rfl,rfl⟩)
theorem map_some {α β:Type} {f:α->β} {x:Option α} {r:β} (h:x.map f=some r):∃ a,x=some a∧r=f a:=by
 cases x with
 | none=>cases h
 | some a=>cases h;exact ⟨a,rfl,rfl⟩
theorem kat {α β:Type} (c:Bool) (x:Option α) (f:α->Option β):(cond c x none).bind f=cond c (x.bind f) none:=by cases c<;>rfl
theorem kej {α β:Type} (c:Bool) (x y:Option α) (f:α->Option β):(cond c x y).bind f=cond c (x.bind f) (y.bind f):=by cases c<;>rfl
theorem kfw {α β:Type} (k:IntKind) (v:V) (K:Int->Option α) (f:α->Option β):(gInt k v K).bind f=gInt k v fun x=>(K x).bind f:=by
 unfold gInt;split<;>first | rfl | exact kat _ _ _
theorem kiF {α β:Type} (v:V) (K:Bool->Option α) (f:α->Option β):(kev v K).bind f=kev v fun x=>(K x).bind f:=by
 unfold kev;split<;>first | rfl | exact kat _ _ _
theorem khH {α β:Type} (v:V) (K:ByteArray->Option α) (f:α->Option β):(gStr v K).bind f=gStr v fun x=>(K x).bind f:=by
 unfold gStr;split<;>first | rfl | exact kat _ _ _
theorem kiG {α β:Type} (sz:Nat) (v:V) (K:List (List D)->Option α) (f:α->Option β):(kfo sz v K).bind f=kfo sz v fun x=>(K x).bind f:=by
 unfold kfo;split<;>first | rfl | exact kat _ _ _
theorem kdo {α β:Type} (v:V) (K:List X->Option α) (f:α->Option β):(keE v K).bind f=keE v fun x=>(K x).bind f:=by cases v<;>rfl
theorem kri {α β:Type} (x:X) (K:D->Option α) (f:α->Option β):(gD x K).bind f=gD x fun x=>(K x).bind f:=by cases x<;>rfl
theorem kgM {α β:Type} (f:α->Option β):∀ (cs:List X) (K:List D->Option α),(gDs cs K).bind f=gDs cs fun x=>(K x).bind f
 | [],K=>rfl
 | x :: r,K=>by unfold gDs;rw [kri];congr 1;funext y;exact kgM f r _
theorem khI {α β:Type} (b:Option Blk) (K:Blk->Option α) (f:α->Option β):(gBlk b K).bind f=gBlk b fun x=>(K x).bind f:=by cases b<;>rfl
theorem kkH {α β:Type} (v:V) (Kp:Nat->Nat->Option α) (Kr:Nat->List D->Nat->Option α) (f:α->Option β):(gPtr v Kp Kr).bind f=gPtr v (fun b o=>(Kp b o).bind f) (fun s r o=>(Kr s r o).bind f):=by
 unfold gPtr;split<;>rfl
theorem krj {α β:Type} (E:Nat->V) (d:Int) (a:Option SArg) (K:Int->Option α) (f:α->Option β):(optK E d a K).bind f=optK E d a fun x=>(K x).bind f:=by
 cases a with
 | none=>rfl
 | some x=>exact kfw _ _ K f
theorem kf8 {α β:Type} (f:α->Option β) (E:Nat->V):∀ (l:List SArg) (K:List X->Option α),(khy E l K).bind f=khy E l fun x=>(K x).bind f
 | [],K=>rfl
 | a :: r,K=>by
  unfold khy
  split
  · exact kf8 f E r _
  · rfl
theorem kdp {α β:Type} (f:α->Option β) (E:Nat->V):∀ (l:List (Nat × Nat × SArg)) (cs:List X) (K:List X->Option α),(kdB E l cs K).bind f=kdB E l cs fun x=>(K x).bind f
 | [],cs,K=>rfl
 | (off,n,a) :: r,cs,K=>by
  unfold kdB
  rw [kdo]
  congr 1
  funext p
  rw [kat,kdp f E r]
theorem kfx {α β:Type} (f:α->Option β) (E:Nat->V) (sz:Nat):∀ (l:List SArg) (K:List (List D)->Option α),(litK E sz l K).bind f=litK E sz l fun x=>(K x).bind f
 | [],K=>rfl
 | a :: r,K=>by
  unfold litK
  rw [kdo]
  congr 1
  funext p
  rw [kat,kgM]
  congr 2
  funext row
  exact kfx f E sz r _
theorem kcA {α β:Type} (f:α->Option β):∀ (ls:List Lf) (xs ys:List X) (K:Bool->Option α),(eqLs ls xs ys K).bind f=eqLs ls xs ys fun x=>(K x).bind f
 | [],xs,ys,K=>by cases xs<;>cases ys<;>rfl
 | l :: r,[],ys,K=>by cases ys<;>rfl
 | l :: r,x :: xs,[],K=>rfl
 | l :: r,x :: xs,y :: ys,K=>by
  unfold eqLs
  cases l with
  | int k=>simp only [kfw];congr 1;funext a;congr 1;funext b;exact kcA f r _ _ _
  | bool=>simp only [kiF];congr 1;funext a;congr 1;funext b;exact kcA f r _ _ _
  | str=>simp only [khH];congr 1;funext a;congr 1;funext b;exact kcA f r _ _ _
  | _=>rfl
theorem kcU {α β:Type} (f:α->Option β):∀ (l:List (List D)) (K:List UInt8->Option α),(bytesOf l K).bind f=bytesOf l fun x=>(K x).bind f
 | [],K=>rfl
 | a :: r,K=>by
  unfold bytesOf
  rw [kfw]
  congr 1;funext n
  exact kcU f r _
theorem kf9 {α β:Type} (k:IntKind) (op:BinOp) (a b:Int) (K:D->Option α) (f:α->Option β):(kky k op a b K).bind f=kky k op a b fun x=>(K x).bind f:=by
 unfold kky
 cases op<;>first | rfl | (cases decide (b=0)<;>rfl)
theorem kga {α β:Type} (op:BinOp) (a b:ByteArray) (K:D->Option α) (f:α->Option β):(kkz op a b K).bind f=kkz op a b fun x=>(K x).bind f:=by
 unfold kkz
 cases op<;>first | rfl | exact kat _ _ _
theorem kgb {α β:Type} (op:BinOp) (a b:Bool) (K:D->Option α) (f:α->Option β):(kkA op a b K).bind f=kkA op a b fun x=>(K x).bind f:=by
 unfold kkA
 cases op<;>rfl
theorem kAJ {α β:Type} (l:Lf) (x:X) (K:X->Option α) (f:α->Option β):(gH l x K).bind f=gH l x fun x=>(K x).bind f:=by
 unfold gH
 cases l<;>first | exact kat _ _ _ | (rw [kej,kat]) | exact kri _ _ _
theorem kny {α β:Type} (f:α->Option β):∀ (row:List X) (ls:List Lf) (K:List X->Option α),(gHs ls row K).bind f=gHs ls row fun x=>(K x).bind f
 | [],ls,K=>by unfold gHs;rfl
 | x :: r,ls,K=>by unfold gHs;rw [kAJ];congr 1;funext y;exact kny f r _ _
theorem kiH {α β:Type} (f:α->Option β) (H:Nat->Option Blk):∀ (l:List Nat) (K:List Blk->List (List Lf × List X)->Option α),(kfZ H l K).bind f=kfZ H l fun x y=>(K x y).bind f
 | [],K=>rfl
 | b :: r,K=>by
  unfold kfZ
  rw [khI]
  congr 1;funext x
  rw [kny]
  congr 1;funext row
  exact kiH f H r _
theorem kiI {α β:Type} (l:Lf) (x:X) (K:X->Option α) (f:α->Option β):(kjo l x K).bind f=kjo l x fun x=>(K x).bind f:=by
 unfold kjo
 cases l<;>exact kat _ _ _
theorem kiJ {α β:Type} (l:Lf) (x:X) (c:Nat) (K:X->Nat->Option α) (f:α->Option β):(klM l x c K).bind f=klM l x c fun x c=>(K x c).bind f:=by
 unfold klM
 cases l with
 | own e sz=>exact kat _ _ _
 | _=>exact kiI _ _ _ _
theorem khJ {α β:Type} (f:α->Option β):∀ (ls:List Lf) (v:V) (i c:Nat) (K:List X->Nat->Option α),(khz ls v i c K).bind f=khz ls v i c fun x c=>(K x c).bind f
 | [],v,i,c,K=>rfl
 | l :: r,v,i,c,K=>by
  unfold khz
  rw [kiJ]
  congr 1;funext x c
  exact khJ f r _ _ _ _
mutual
theorem kiK {α β:Type} (f:α->Option β):∀ (s:Sh) (v:V) (c:Nat) (K:V->Nat->Option α),(kf0 s v c K).bind f=kf0 s v c fun x c=>(K x c).bind f
 | .one l,v,c,K=>by
  unfold kf0
  rw [kat,kiJ]
 | .agg ls,v,c,K=>by
  unfold kf0
  rw [kat,khJ]
 | .tup ss,v,c,K=>by
  unfold kf0
  rw [kat,khK f ss]
 | .none,v,c,K=>by
  unfold kf0
  rfl
theorem khK {α β:Type} (f:α->Option β):∀ (ss:List Sh) (v:V) (i c:Nat) (K:List V->Nat->Option α),(kfp ss v i c K).bind f=kfp ss v i c fun x c=>(K x c).bind f
 | [],v,i,c,K=>by unfold kfp;rfl
 | s :: r,v,i,c,K=>by
  unfold kfp
  rw [kiK f s]
  congr 1;funext x c
  exact khK f r _ _ _ _
end
theorem kpx {α β:Type} (sp:Bool) (l:Lf) (x:X) (b i nk c:Nat) (K:X->Nat->Option α) (f:α->Option β):(kpl sp l x b i nk c K).bind f=kpl sp l x b i nk c fun x c=>(K x c).bind f:=by
 unfold kpl
 cases l<;>first | exact kat _ _ _ | (cases sp<;>first | rfl | exact kat _ _ _) | (rw [kat];congr 1;exact kiI _ _ _ _)
theorem khL {α β:Type} (sp:Bool) (f:α->Option β):∀ (ls:List Lf) (row:List X) (b i nk pos c:Nat) (K:List X->Nat->Option α),(keF sp ls row b i nk pos c K).bind f=keF sp ls row b i nk pos c fun x c=>(K x c).bind f
 | [],row,b,i,nk,pos,c,K=>by unfold keF;exact kat _ _ _
 | l :: r,row,b,i,nk,pos,c,K=>by
  unfold keF
  rw [kpx]
  congr 1;funext x c
  exact khL sp f r _ _ _ _ _ _ _
theorem kiL {α β:Type} (sp:Bool) (f:α->Option β):∀ (l:List Nat) (bs:List Blk) (rows:List (List X)) (i nk c:Nat) (K:List (Nat × Blk)->Nat->Option α),(kjq sp l bs rows i nk c K).bind f=kjq sp l bs rows i nk c fun x c=>(K x c).bind f
 | [],bs,rows,i,nk,c,K=>by unfold kjq;rfl
 | b :: r,[],rows,i,nk,c,K=>rfl
 | b :: r,x :: bs,rows,i,nk,c,K=>by
  unfold kjq
  rw [khL]
  congr 1;funext xs c
  exact kiL sp f r _ _ _ _ _ _
section
variable (Γ:SemL) (shp:FuncId->Sh)
theorem kgc {α β:Type} (f:α->Option β) (fn:FuncId) (vs:List V) (H:Nat->Option Blk) (L:Nat->Bool) (nk:Nat) (K:Patch->Option α) (Kp:D->List (Nat × Blk)->Option α) :
 (kc9 Γ shp fn vs H L nk K Kp).bind f=kc9 Γ shp fn vs H L nk (fun p=>(K p).bind f) (fun d hw=>(Kp d hw).bind f):=by
 unfold kc9
 rw [kiH]
 congr 1;funext blks rows
 rw [kat]
 congr 1
 rw [Option.bind_assoc]
 congr 1;funext o
 rw [kiL]
 congr 1;funext hw c0
 rw [kej,kiK,kat]
 congr 2;funext x c
 exact kat _ _ _
theorem krk {α β:Type} (f:α->Option β) (o:SOp) (nb nk:Nat) (w:View) (K:Patch->Option α) (Kp:D->List (Nat × Blk)->Option α) :
 (aopK Γ shp o nb nk w K Kp).bind f=aopK Γ shp o nb nk w (fun p=>(K p).bind f) (fun d hw=>(Kp d hw).bind f):=by
 cases o
 case load agg n a=>cases agg<;>simp only [aopK,kkH,khI,kat]
 case field agg off n x=>cases agg<;>(simp only [aopK];split<;>first | rfl | exact kat _ _ _)
 case len str x =>
  cases str
  · simp only [aopK];split<;>first | rfl | exact kat _ _ _
  · simp only [aopK,khH]
 case inil=>simp only [aopK];split<;>first | rfl | rw [kej,kat]
 case aeq=>simp only [aopK];split<;>first | rfl | rw [kat,kcA]
 case mkI=>simp only [aopK];split<;>first | rfl | exact kgM _ _ _
 case ext=>simp only [aopK];split<;>first | rfl | exact kat _ _ _
 case nchk=>simp only [aopK];split<;>rfl
 case pan=>simp only [aopK];split<;>first | rfl | exact kat _ _ _
 case callv=>simp only [aopK];split<;>first | rfl | exact kgc _ _ _ _ _ _ _ _ _ _
 case dfrv=>simp only [aopK];split<;>rfl
 case boxB =>
  simp only [aopK,kdo]
  congr 1;funext cs
  split<;>rfl
 case app =>
  simp only [aopK,kiG]
  congr 1;funext new
  rw [kat]
  congr 1
  split<;>first | rfl | exact kat _ _ _
 all_goals first | rfl | (simp only [aopK,kiF,kfw,khH,kiG,kdo,kkH,khI,kat,kej,krj,kdp,kfx,kcA,kcU,kf9,kga,kgb,kf8,kgM,kgc,Option.bind_none])
def aop1 (so:SOp) (nb nk:Nat) (vw:View):Option Res:=aopK (α:=Res) Γ shp so nb nk vw (fun p=>some (.inl p)) (fun d hw=>some (.inr (d,hw)))
def kDK {α:Type} (K:Patch->Option α) (Kp:D->List (Nat × Blk)->Option α):Res->Option α
 | .inl p=>K p
 | .inr (d,hw)=>Kp d hw
theorem krl {α:Type} (o:SOp) (nb nk:Nat) (w:View) (K:Patch->Option α) (Kp:D->List (Nat × Blk)->Option α):aopK Γ shp o nb nk w K Kp=(aop1 Γ shp o nb nk w).bind (kDK K Kp):=by
 unfold aop1
 rw [krk]
 rfl
end
end Go.Proofs.YtaphnbaiamnfpaaGreatDoor.Ps
