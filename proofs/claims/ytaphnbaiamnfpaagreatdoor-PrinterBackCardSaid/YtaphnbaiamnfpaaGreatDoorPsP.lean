/- Regions in the order of their text. -/
import Derived.Test.YtaphnbaiamnfpaaGreatDoorPsO
namespace Go.Proofs.YtaphnbaiamnfpaaGreatDoor.Ps
set_option linter.unusedVariables false
set_option linter.unusedSimpArgs false
open Go Go.RowKit
section
variable (P:Program)
def afters (o:Oper):List Nat:=o.after.toList.filterMap fun e=>cond (Region.binds .any e) (some e.on) none
def kyh (o:Oper):Option SOp :=
 match o.op with
 | .defer { callee:=.value (.func f),args:=xs,argTypes:=ts }=>(args P ts.toList xs.toList).map (.dfr f)
 | .defer { callee:=.value x,args:=xs,argTypes:=ts }=>ap2 .dfrv (arg P 0 x) (args P ts.toList xs.toList)
 | _=>none
def kuz (N:Nat) (o:Oper):Bool:=match o.dst with | some d=>Nat.blt d N | none=>true
def kgd (N:Nat) (ops:Array Oper) (o:Oper):Option SOper :=
 match comp P o with
 | some so=>cond (kuz N o&&!so.isDf)
  (match o.guard with
  | none=>some ⟨o.dst,so,afters o,none⟩
  | some (j,w)=>match (ops[j]?).bind (·.dst) with
   | some t=>some ⟨o.dst,so,afters o,some (j,t,w)⟩
   | none=>none) none
 | none=>none
def kdV (N:Nat) (ops:Array Oper) (o:Oper):Option SOper :=
 match o.guard with
 | none =>
  match kyh P o with
  | some so=>cond (kuz N o) (some ⟨o.dst,so,afters o,none⟩) none
  | none=>kgd P N ops o
 | some _=>kgd P N ops o
end
theorem keZ {α:Type} {v:V} {want:Bool} {K:Bool->Option α} {r:α} (h:kfq v want K=some r):∃ b,(v=dv (.bool b)∨(v=.tup []∧b=!want))∧K b=some r:=by
 unfold kfq at h
 split at h
 · rename_i vs
   obtain ⟨h1,h⟩:=kac h
   have:vs=[]:=by cases vs with
    | nil=>rfl
    | cons _ _=>cases h1
   subst this
   exact ⟨_,.inr ⟨rfl,rfl⟩,h⟩
 · obtain ⟨b,hb,h⟩:=kbg h
   exact ⟨b,.inl hb,h⟩
 · cases h
section
variable {P:Program} {N:Nat} (Γ:SemL) (shp:FuncId->Sh)
def kcV (o:SOper) (nb nk:Nat) (v:View):Option Res :=
 match o.guard with
 | none=>aop1 Γ shp o.op nb nk v
 | some (_,t,want)=>kfq (v.env t) want fun b=>cond (b==want) (aop1 Γ shp o.op nb nk v) (some (.inl ⟨.tup [],[],[],[]⟩))
variable {Γ shp}
theorem kfy (s:St) (t:Nat) (b:Bool) (h:look t s.env=dv (.bool b)):({ s with env:=(t,dv (.bool b)) :: s.env }:St).view=s.view:=by
 unfold St.view
 congr 1
 funext t'
 simp only [look]
 cases hq:Nat.beq t t'
 · rfl
 · have:=Nat.eq_of_beq_eq_true hq
   subst this
   exact h.symm
theorem kge {α:Type} {o:SOper} {i:Nat} {s:St} {K:Patch->St->Option α} {Kp:D->St->Option α} {r:α} (h:kpm Γ shp o i s K Kp=some r) :
 (∃ p s',kcV Γ shp o (s.nb+i) (s.nk+16*i) s.view=some (.inl p)∧K p s'=some r∧s'.view=s.view.patch o.dst p∧s'.nb=s.nb∧s'.nk=s.nk∧s'.np=s.np∧s'.dfs=o.dfs s.view.env++s.dfs) ∨
 (∃ d hw s',kcV Γ shp o (s.nb+i) (s.nk+16*i) s.view=some (.inr (d,hw))∧Kp d s'=some r∧s'.heap=hw++s.heap∧s'.nb=s.nb∧s'.nk=s.nk∧s'.np=s.np∧s'.dfs=s.dfs∧s'.view.env=s.view.env∧s'.live=s.live):=by
 unfold kpm at h
 unfold kcV
 have run:∀ s1:St,s1.view=s.view->s1.heap=s.heap->s1.nb=s.nb->s1.nk=s.nk->s1.np=s.np->s1.dfs=s.dfs->s1.live=s.live->aopK Γ shp o.op (s1.nb+i) (s1.nk+16*i) s1.view (fun p=>K p { s1.apply o.dst p with dfs:=o.dfs (fun t=>look t s1.env)++s1.dfs }) (fun d hw=>Kp d { s1 with heap:=hw++s1.heap })=some r ->
  (∃ p s',aop1 Γ shp o.op (s.nb+i) (s.nk+16*i) s.view=some (.inl p)∧K p s'=some r∧s'.view=s.view.patch o.dst p∧s'.nb=s.nb∧s'.nk=s.nk∧s'.np=s.np∧s'.dfs=o.dfs s.view.env++s.dfs) ∨
  (∃ d hw s',aop1 Γ shp o.op (s.nb+i) (s.nk+16*i) s.view=some (.inr (d,hw))∧Kp d s'=some r∧s'.heap=hw++s.heap∧s'.nb=s.nb∧s'.nk=s.nk∧s'.np=s.np∧s'.dfs=s.dfs∧s'.view.env=s.view.env∧s'.live=s.live):=fun s1 h1 h2 h3 h4 h5 h6 h7 hr=>by
  rw [krl,Option.bind_eq_some_iff] at hr
  obtain ⟨res,hr1,hr2⟩:=hr
  rw [h1,h3,h4] at hr1
  have he:(fun t=>look t s1.env)=s.view.env:=by rw [<- h1];rfl
  cases res with
  | inl p=>exact .inl ⟨p,_,hr1,hr2,by rw [<- h1];exact St.apply_view s1 o.dst p,h3,h4,h5,by show o.dfs (fun t=>look t s1.env)++s1.dfs=_;rw [he,h6]⟩
  | inr q =>
   obtain ⟨d,hw⟩:=q
   exact .inr ⟨d,hw,_,hr1,hr2,by show hw++s1.heap=_;rw [h2],h3,h4,h5,h6,he,h7⟩
 have skip:∀ s1:St,s1.view=s.view->s1.nb=s.nb->s1.nk=s.nk->s1.np=s.np->s1.dfs=s.dfs->o.dfs s.view.env=[]->K ⟨.tup [],[],[],[]⟩ (s1.apply o.dst ⟨.tup [],[],[],[]⟩)=some r ->
  ∃ p s',(some (.inl ⟨.tup [],[],[],[]⟩):Option Res)=some (.inl p)∧K p s'=some r∧s'.view=s.view.patch o.dst p∧s'.nb=s.nb∧s'.nk=s.nk∧s'.np=s.np∧s'.dfs=o.dfs s.view.env++s.dfs:=fun s1 h1 h3 h4 h5 h6 h7 hr =>
  ⟨_,_,rfl,hr,by rw [St.apply_view,h1],h3,h4,h5,by rw [h7];exact h6⟩
 cases hg:o.guard with
 | none =>
  rw [hg] at h
  exact run s rfl rfl rfl rfl rfl rfl rfl h
 | some q =>
  obtain ⟨j,t,want⟩:=q
  have hdf:o.dfs s.view.env=[]:=by unfold SOper.dfs;rw [hg]
  rw [hg] at h
  have e0:s.view.env t=look t s.env:=rfl
  simp only [e0]
  cases hl:look t s.env with
  | tup vs =>
   simp only [hl] at h
   obtain ⟨hv,h⟩:=kac h
   have hq:∀ K:Bool->Option Res,kfq (.tup vs) want K=K (!want):=fun K=>by unfold kfq;simp only [hv,cond_true]
   simp only [hq]
   cases want
   · exact .inl (skip s rfl rfl rfl rfl rfl hdf h)
   · exact .inl (skip s rfl rfl rfl rfl rfl hdf h)
  | one x =>
   simp only [hl] at h
   obtain ⟨b,hb,h⟩:=kbg h
   have hb':look t s.env=dv (.bool b):=hl.trans hb
   rw [hb]
   show (∃ p s',cond (b==want) _ _=_∧_)∨(∃ d hw s',cond (b==want) _ _=_∧_)
   cases b<;>cases want
   · exact run _ (kfy s t false hb') rfl rfl rfl rfl rfl rfl h
   · exact .inl (skip _ (kfy s t false hb') rfl rfl rfl rfl hdf h)
   · exact .inl (skip _ (kfy s t true hb') rfl rfl rfl rfl hdf h)
   · exact run _ (kfy s t true hb') rfl rfl rfl rfl rfl rfl h
  | agg cs=>simp only [hl] at h;cases h
  | junk=>simp only [hl] at h;cases h
inductive DfR (g:G):List (FuncId × List V)->List Deferred->Prop
 | nil:DfR g [] []
 | cons (f:FuncId) (vs:List V) (dargs caps:List Value) (r:List (FuncId × List V)) (ds:List Deferred):ka7 g vs (dargs++caps)->DfR g r ds ->
  DfR g ((f,vs) :: r) ({ target:=.fn (.func f) caps.toArray,args:=dargs.toArray } :: ds)
theorem ka7.mono {g g':G} (k:Keeps g g') {xs:List V} {vs:List Value} (h:ka7 g xs vs):ka7 g' xs vs:=⟨h.1,fun j hj=>(h.2 j hj).mono k⟩
theorem DfR.mono {g g':G} (k:Keeps g g') {l:List (FuncId × List V)} {ds:List Deferred} (h:DfR g l ds):DfR g' l ds:=by
 induction h with
 | nil=>exact .nil
 | cons f vs dargs caps r ds h _ ih=>exact .cons f vs dargs caps r ds (h.mono k) ih
theorem DfR.append {g:G} {l l':List (FuncId × List V)} {ds ds':List Deferred} (h:DfR g l ds) (h':DfR g l' ds'):DfR g (l++l') (ds++ds'):=by
 induction h with
 | nil=>exact h'
 | cons f vs dargs caps r ds h _ ih=>exact .cons f vs dargs caps _ _ h ih
theorem kuA {so:SOp} (h:so.isDf=false) (E:Nat->V):so.dfs E=[]:=by cases so<;>first | rfl | cases h
theorem knA {so:SOper} (h:so.op.isDf=false) (E:Nat->V):so.dfs E=[]:=by
 unfold SOper.dfs
 cases so.guard with
 | none=>exact kuA h E
 | some _=>rfl
structure Fresh (g:G) (nb nk:Nat):Prop where
 b:∀ i,nb<=i->g.β i=none
 k:∀ κ,nk<=κ->¬ g.us κ
structure PatchIn (nb nk:Nat) (v:View) (p:Patch):Prop where
 hw:∀ i x,kaI i p.hw=some x->i=nb∨(v.heap i).isSome=true
 born:∀ κ,hasN κ p.born=true->nk<=κ∧κ < nk+16
 kill:∀ κ,hasN κ p.kill=true->v.live κ=true
theorem kjy (κ k:Nat):hasN κ [k]=true ↔ k=κ:=by
 rw [kaZ,List.mem_singleton]
 exact eq_comm
theorem nilN {p:Nat->Prop}:∀ κ,hasN κ []=true->p κ:=fun κ h=>by cases h
theorem nilB {p:Nat->Blk->Prop}:∀ i x,kaI i []=some x->p i x:=fun i x h=>by cases h
theorem kjz (nb nk:Nat) (v:View) (x:V):PatchIn nb nk v ⟨x,[],[],[]⟩:=⟨nilB,nilN,nilN⟩
theorem khP {f:FuncId} {vs:List V} {nb nk:Nat} {v:View} {r:Res} (h:kc9 (α:=Res) Γ shp f vs v.heap v.live nk (fun p=>some (.inl p)) (fun d hw=>some (.inr (d,hw)))=some r) :
 (∀ p,r=.inl p->PatchIn nb nk v p)∧(∀ d hw,r=.inr (d,hw)->PatchIn nb nk v ⟨.junk,hw,[],[]⟩):=by
 unfold kc9 at h
 obtain ⟨blks,rows,h,hl1,hl2,hb⟩:=kf4 h
 obtain ⟨hl,h⟩:=kac h
 rw [Bool.and_eq_true] at hl
 have hlive:=kei.1 hl.1
 rw [Option.bind_eq_some_iff] at h
 obtain ⟨out,hout,h⟩:=h
 obtain ⟨hw,c0,_,h,hw1,hw2⟩:=keh h
 have hin:∀ i x,kaI i hw=some x->i=nb∨(v.heap i).isSome=true:=fun i x hx=>by
  obtain ⟨j,hj,_⟩:=hw1 i x hx
  obtain ⟨y,hy,_⟩:=hb j i hj
  exact .inr (by rw [hy];rfl)
 cases hok:out.ok with
 | true =>
  rw [hok] at h
  simp only [cond_true] at h
  obtain ⟨x,c,_,h,_⟩:=keg _ h
  obtain ⟨hc,h⟩:=kac h
  simp only [Bool.and_eq_true] at hc
  have hc16:=Nat.le_of_ble_eq_true hc.2
  cases h
  refine ⟨fun p hp=>?_,(fun d hw hp=>by cases hp)⟩
  cases hp
  exact ⟨hin,(fun κ hκ=>by have:=(kbP κ nk c).1 hκ;omega),fun κ hκ=>hlive κ ((kaZ _ _).1 hκ)⟩
 | false =>
  rw [hok] at h
  simp only [cond_false] at h
  obtain ⟨hc,h⟩:=kac h
  cases h
  refine ⟨(fun p hp=>by cases hp),fun d hw hp=>?_⟩
  cases hp
  exact ⟨hin,nilN,nilN⟩
theorem krn {so:SOp} {nb nk:Nat} {v:View} {r:Res} (h:aop1 Γ shp so nb nk v=some r):(∀ p,r=.inl p->PatchIn nb nk v p)∧(∀ d hw,r=.inr (d,hw)->PatchIn nb nk v ⟨.junk,hw,[],[]⟩):=by
 have one:∀ p,PatchIn nb nk v p->r=.inl p->(∀ p,r=.inl p->PatchIn nb nk v p)∧(∀ d hw,r=.inr (d,hw)->PatchIn nb nk v ⟨.junk,hw,[],[]⟩):=fun p hp hr=>by
  subst hr
  exact ⟨(fun q hq=>by cases hq;exact hp),(fun d hw hq=>by cases hq)⟩
 have pure1:∀ x,(some (.inl ⟨x,[],[],[]⟩):Option Res)=some r->(∀ p,r=.inl p->PatchIn nb nk v p)∧(∀ d hw,r=.inr (d,hw)->PatchIn nb nk v ⟨.junk,hw,[],[]⟩):=fun x hx =>
  one _ (kjz nb nk v x) (kam hx)
 have hnew:∀ (sh:List Lf) (cs:List X) (x:V),PatchIn nb nk v ⟨x,[(nb,⟨sh,cs⟩)],[],[]⟩:=fun sh cs x=>⟨(fun i y hi=>by
  simp only [kaI] at hi
  cases hq:Nat.beq nb i
  · rw [hq] at hi;cases hi
  · exact .inl (Nat.eq_of_beq_eq_true hq).symm),nilN,nilN⟩
 have hborn:∀ x,PatchIn nb nk v ⟨x,[],[],[nk]⟩:=fun x=>⟨nilB,(fun κ h=>by have:=(kjy κ nk).1 h;omega),nilN⟩
 unfold aop1 at h
 cases so
 case load agg n a =>
  cases agg <;>
  · simp only [aopK] at h
    rcases kcy h with ⟨b,off,_,h⟩ | ⟨sz,row,off,_,h⟩
    · obtain ⟨blk,_,h⟩:=kbD h
      exact pure1 _ (kac h).2
    · exact pure1 _ (kac h).2
 case field agg off n x =>
  cases agg <;>
  · simp only [aopK] at h
    split at h
    · exact pure1 _ (kac h).2
    · cases h
 case len str x =>
  cases str
  · simp only [aopK] at h
    split at h
    · exact pure1 _ (kac h).2
    · exact pure1 _ h
    · exact pure1 _ h
    · cases h
  · simp only [aopK] at h
    obtain ⟨s,_,h⟩:=kbh h
    exact pure1 _ h
 case inil neg x =>
  simp only [aopK] at h
  split at h
  · rename_i d _
    cases hq:d.isNilI
    · rw [hq] at h;exact pure1 _ (kac h).2
    · rw [hq] at h;exact pure1 _ h
  · cases h
 case aeq neg ls x y =>
  simp only [aopK] at h
  split at h
  · have h':=(kac h).2
    rw [show (fun q=>some (.inl ⟨dv (.bool (cond neg (!q) q)),[],[],[]⟩):Bool->Option Res)=(fun q=>(some q).bind fun q=>some (.inl ⟨dv (.bool (cond neg (!q) q)),[],[],[]⟩)) from rfl,<- kcA,Option.bind_eq_some_iff] at h'
    obtain ⟨q,_,h'⟩:=h'
    exact pure1 _ h'
  · cases h
 case mkI t x =>
  simp only [aopK] at h
  split at h
  · exact pure1 _ (kjr h)
  · cases h
 case ext x i =>
  simp only [aopK] at h
  split at h
  · exact pure1 _ (kac h).2
  · cases h
 case nchk x =>
  simp only [aopK] at h
  split at h
  · exact pure1 _ h
  · exact pure1 _ h
  · cases h
 case pan x =>
  simp only [aopK] at h
  split at h
  · have h':=(kac h).2
    cases h'
    exact ⟨(fun p hp=>by cases hp),(fun d hw hq=>by cases hq;exact kjz nb nk v .junk)⟩
  · cases h
 case callv x args =>
  simp only [aopK] at h
  split at h
  · exact khP h
  · cases h
 case call f args =>
  simp only [aopK] at h
  exact khP h
 case app e sz bytes x y =>
  simp only [aopK] at h
  obtain ⟨new,h,_⟩:=kcn h
  have h:=(kac h).2
  split at h
  · rename_i κ e' s rows _
    obtain ⟨h1,h⟩:=kac h
    simp only [Bool.and_eq_true] at h1
    refine one _ ⟨nilB,(fun κ h=>by have:=(kjy κ nk).1 h;omega),fun κ' h=>?_⟩ (kam h)
    have:=(kjy κ' κ).1 h
    subst this
    exact h1.1.1.1
  · exact one _ (hborn _) (kam (kac h).2)
  · cases h
 case lit e sz parts =>
  simp only [aopK] at h
  have h':=h
  rw [show (fun rows=>some (.inl ⟨.one (.own nk e sz rows),[],[],[nk]⟩):List (List D)->Option Res)=(fun q=>(some q).bind fun rows=>some (.inl ⟨.one (.own nk e sz rows),[],[],[nk]⟩)) from rfl,<- kfx,Option.bind_eq_some_iff] at h'
  obtain ⟨q,_,h'⟩:=h'
  exact one _ (hborn _) (kam h')
 case build zero parts =>
  simp only [aopK] at h
  have h':=h
  rw [show (fun cs=>some (.inl ⟨.agg cs,[],[],[]⟩):List X->Option Res)=(fun q=>(some q).bind fun cs=>some (.inl ⟨.agg cs,[],[],[]⟩)) from rfl,<- kdp,Option.bind_eq_some_iff] at h'
  obtain ⟨q,_,h'⟩:=h'
  exact pure1 _ h'
 case mov x=>exact pure1 _ h
 case pick c a b =>
  simp only [aopK] at h
  obtain ⟨q,_,h⟩:=kbg h
  cases q
  · exact pure1 _ h
  · exact pure1 _ h
 case alloc sh row=>exact one _ (hnew _ _ _) (kam h)
 case allocB e =>
  have hB:PatchIn nb nk v ⟨.one (.ptr nb 0),[(nb,⟨[.slf,.own e 1],[.slf nb,.own nk e 1 []]⟩)],[],[nk]⟩:=⟨(hnew [.slf,.own e 1] [.slf nb,.own nk e 1 []] .junk).hw,(hborn .junk).born,nilN⟩
  exact one _ hB (kam h)
 case boxB e x =>
  have hB:PatchIn nb nk v ⟨.one (.ptr nb 0),[(nb,⟨[.slf,.own e 1],[.slf nb,.own nk e 1 []]⟩)],[],[nk]⟩:=⟨(hnew [.slf,.own e 1] [.slf nb,.own nk e 1 []] .junk).hw,(hborn .junk).born,nilN⟩
  simp only [aopK] at h
  obtain ⟨cs,h,_⟩:=kb4 h
  split at h
  · exact one _ hB (kam h)
  · cases h
 case dfr f args=>exact pure1 _ h
 case dfrv x args =>
  simp only [aopK] at h
  split at h
  · exact pure1 _ h
  · cases h
 case box sh x =>
  simp only [aopK] at h
  obtain ⟨cs,h,_⟩:=kb4 h
  exact one _ (hnew _ _ _) (kam h)
 case store n a x =>
  simp only [aopK] at h
  rcases kcy h with ⟨b,off,_,h⟩ | ⟨sz,row,off,_,h⟩
  · obtain ⟨blk,hb,h⟩:=kbD h
    obtain ⟨cs,h,_⟩:=kb4 h
    refine one _ ⟨fun i y hi=>?_,nilN,nilN⟩ (kam (kac h).2)
    simp only [kaI] at hi
    cases hq:Nat.beq b i
    · rw [hq] at hi;cases hi
    · have:=Nat.eq_of_beq_eq_true hq
      subst this
      exact .inr (by rw [hb];rfl)
  · cases h
 case faddr off x =>
  simp only [aopK] at h
  rcases kcy h with ⟨b,off,_,h⟩ | ⟨sz,row,off,_,h⟩
  · exact pure1 _ h
  · exact pure1 _ h
 case iaddr sz x i =>
  simp only [aopK] at h
  obtain ⟨rows,h,_⟩:=kcn h
  obtain ⟨n,_,h⟩:=kaS h
  exact pure1 _ (kac h).2
 case aaddr len sz x i =>
  simp only [aopK] at h
  rcases kcy h with ⟨b,off,_,h⟩ | ⟨sz,row,off,_,h⟩
  · obtain ⟨n,_,h⟩:=kaS h
    exact pure1 _ (kac h).2
  · obtain ⟨n,_,h⟩:=kaS h
    exact pure1 _ (kac h).2
 case chr x i =>
  simp only [aopK] at h
  obtain ⟨s,_,h⟩:=kbh h
  obtain ⟨n,_,h⟩:=kaS h
  exact pure1 _ (kac h).2
 case sub x lo hi =>
  simp only [aopK] at h
  obtain ⟨s,_,h⟩:=kbh h
  have ok:∀ (d:Int) (q:Option SArg) (K:Int->Option Res),optK v.env d q K=some r->∃ n,K n=some r:=fun d q K hk=>by
   cases q with
   | none=>exact ⟨d,hk⟩
   | some x=>obtain ⟨n,_,hk⟩:=kaS hk;exact ⟨n,hk⟩
  obtain ⟨n,h⟩:=ok _ _ _ h
  obtain ⟨m,h⟩:=ok _ _ _ h
  exact pure1 _ (kac h).2
 case subl sz x lo hi =>
  simp only [aopK] at h
  obtain ⟨s,h,_⟩:=kcn h
  have ok:∀ (d:Int) (q:Option SArg) (K:Int->Option Res),optK v.env d q K=some r->∃ n,K n=some r:=fun d q K hk=>by
   cases q with
   | none=>exact ⟨d,hk⟩
   | some x=>obtain ⟨n,_,hk⟩:=kaS hk;exact ⟨n,hk⟩
  obtain ⟨n,h⟩:=ok _ _ _ h
  obtain ⟨m,h⟩:=ok _ _ _ h
  exact pure1 _ (kac h).2
 case ibin k op x y =>
  simp only [aopK] at h
  obtain ⟨m,_,h⟩:=kaS h
  obtain ⟨n,_,h⟩:=kaS h
  have h':kky k op m n (fun d=>(some d).bind fun d=>some (.inl ⟨dv d,[],[],[]⟩:Res))=some r:=h
  rw [<- kf9,Option.bind_eq_some_iff] at h'
  obtain ⟨d,_,h'⟩:=h'
  exact pure1 _ h'
 case sbin op x y =>
  simp only [aopK] at h
  obtain ⟨m,_,h⟩:=kbh h
  obtain ⟨n,_,h⟩:=kbh h
  have h':kkz op m n (fun d=>(some d).bind fun d=>some (.inl ⟨dv d,[],[],[]⟩:Res))=some r:=h
  rw [<- kga,Option.bind_eq_some_iff] at h'
  obtain ⟨d,_,h'⟩:=h'
  exact pure1 _ h'
 case bbin op x y =>
  simp only [aopK] at h
  obtain ⟨m,_,h⟩:=kbg h
  obtain ⟨n,_,h⟩:=kbg h
  have h':kkA op m n (fun d=>(some d).bind fun d=>some (.inl ⟨dv d,[],[],[]⟩:Res))=some r:=h
  rw [<- kgb,Option.bind_eq_some_iff] at h'
  obtain ⟨d,_,h'⟩:=h'
  exact pure1 _ h'
 case inot x =>
  simp only [aopK] at h
  obtain ⟨m,_,h⟩:=kbg h
  exact pure1 _ h
 case ineg k x =>
  simp only [aopK] at h
  obtain ⟨m,_,h⟩:=kaS h
  exact pure1 _ h
 case conv k k' x =>
  simp only [aopK] at h
  obtain ⟨m,_,h⟩:=kaS h
  exact pure1 _ h
 case bstr x =>
  simp only [aopK] at h
  obtain ⟨rows,h,_⟩:=kcn h
  have h':bytesOf rows (fun s=>(some s).bind fun s=>some (.inl ⟨dv (.str ⟨s.toArray⟩),[],[],[]⟩:Res))=some r:=h
  rw [<- kcU,Option.bind_eq_some_iff] at h'
  obtain ⟨l,_,h'⟩:=h'
  exact pure1 _ h'
 case mkF f caps =>
  simp only [aopK] at h
  have h':khy v.env caps (fun xs=>(some xs).bind fun xs=>some (.inl ⟨.one (.fn f xs),[],[],[]⟩:Res))=some r:=h
  rw [<- kf8,Option.bind_eq_some_iff] at h'
  obtain ⟨l,_,h'⟩:=h'
  exact pure1 _ h'
 case mnmx mx x y =>
  simp only [aopK] at h
  obtain ⟨m,_,h⟩:=kaS h
  obtain ⟨n,_,h⟩:=kaS h
  exact pure1 _ h
theorem kiM {o:SOper} {nb nk:Nat} {v:View} {r:Res} (h:kcV Γ shp o nb nk v=some r):(∀ p,r=.inl p->PatchIn nb nk v p)∧(∀ d hw,r=.inr (d,hw)->PatchIn nb nk v ⟨.junk,hw,[],[]⟩):=by
 unfold kcV at h
 split at h
 · exact krn h
 · rename_i fs t want _
   obtain ⟨b,_,h⟩:=keZ h
   cases hq:b==want
   · rw [hq] at h
     cases h
     exact ⟨(fun p hp=>by cases hp;exact kjz _ _ _ _),(fun d hw hp=>by cases hp)⟩
   · rw [hq] at h
     exact krn h
theorem Fresh.step {g g':G} {v:View} {a:Act} {p:Patch} {u:Value} {nb nk:Nat} (h:Rep N g v a) (hp:RepP g g' p u) (hin:PatchIn nb nk v p) {nb0 nk0:Nat} (hf:Fresh g nb0 nk0) (h1:nb < nb0+1) (h2:nk < nk0+1):Fresh g' (nb0+1) (nk0+16) where
 b:=fun i hi=>by
  cases hb:g'.β i with
  | none=>rfl
  | some B =>
   rcases hp.new i B hb with h3 | ⟨h3,_,_,h4,_⟩
   · rw [hf.b i (by omega)] at h3;cases h3
   · obtain ⟨x,hx⟩:=Option.isSome_iff_exists.1 h4
     rcases hin.hw i x hx with h5 | h5
     · omega
     · obtain ⟨y,hy⟩:=Option.isSome_iff_exists.1 h5
       obtain ⟨B',hB'⟩:=h.heap i y hy
       rw [hB'.at_] at h3
       cases h3
 k:=fun κ hκ hu=>by
  rcases hp.use κ hu with h3 | h3
  · exact hf.k κ (by omega) h3
  · have:=hin.born κ h3
    omega
theorem Rep.guard {g:G} {v:View} {a:Act} (h:Rep N g v a) {ops:Array Oper} {j t:Nat} (hj:(ops[j]?).bind (·.dst)=some t) {b:Bool} (hb:v.env t=dv (.bool b)):yielded ops a.tmps j=some b:=by
 have:=h.env t
 rw [hb] at this
 have e:=this.bool_eq
 unfold yielded
 rw [hj]
 have e2:a.tmps[t]? = some (.bool b):=by
  rw [Array.getD_eq_getD_getElem?] at e
  cases hq:a.tmps[t]? with
  | none=>rw [hq] at e;cases e
  | some u=>rw [hq] at e;rw [<- e];rfl
 simp only [Option.bind_some,e2]
theorem Rep.guard_out {g:G} {v:View} {a:Act} (h:Rep N g v a) {ops:Array Oper} {j t:Nat} (hj:(ops[j]?).bind (·.dst)=some t) (hb:v.env t=.tup []):yielded ops a.tmps j=none:=by
 have:=h.env t
 rw [hb] at this
 unfold yielded
 rw [hj]
 cases hq:a.tmps[t]? with
 | none=>simp only [Option.bind_some,hq]
 | some u =>
  rw [Array.getD_eq_getD_getElem?,hq] at this
  simp only [Option.getD_some] at this
  cases this with
  | tup xs vs hl hrep =>
   simp only [Option.bind_some,hq]
theorem kuB {w0:World} (hΓ:keY P w0 Γ) {ops:Array Oper} {i:Nat} {o:Oper} (hi:ops[i]? = some o) {so:SOper} (hc:kdV P N ops o=some so) {g:G} (hs:Since w0 g) {v:View} {a:Act} (h:Rep N g v a) {nb nk:Nat} (hnb:g.β nb=none) (hnk:∀ κ,nk<=κ->κ < nk+16->¬ g.us κ)
 {r:Res} (hr:kcV Γ shp so nb nk v=some r) (K:Act->World->Prop) (Q:Exit->Act->World->Prop)
 (hK:∀ p g' a' ds,r=.inl p->Step g g'->Keeps g g'->Rep N g' (v.patch so.dst p) a'->(∃ u,RepP g g' p u)->a'.defers=ds++a.defers->DfR g' (so.dfs v.env) ds->K a' g'.w)
 (hQ:∀ d hw g' u,r=.inr (d,hw)->RepP g g' ⟨.junk,hw,[],[]⟩ undef->RepD g'.w g'.φ d u->Q (.panic [{ v:=u,recovered:=false }]) a g'.w):wpOp P ops Q i K a g.w:=by
 have hput:∀ (d:Option Nat) (u:Value),(a.put d u).defers=[]++a.defers:=fun d u=>by cases d<;>rfl
 have old:kgd P N ops o=some so->wpOp P ops Q i K a g.w:=fun hc=>by
  unfold kgd at hc
  split at hc
  · rename_i sop hsop
    obtain ⟨hd,hc⟩:=kac hc
    rw [Bool.and_eq_true] at hd
    have hnd:sop.isDf=false:=by cases hq:sop.isDf<;>rw [hq] at hd<;>first | rfl | exact absurd hd.2 (by simp)
    have hdst:∀ d,o.dst=some d->d < N:=fun d hd'=>by
     have:=hd.1
     unfold kuz at this
     rw [hd'] at this
     exact Nat.le_of_ble_eq_true this
    have run:∀ so':SOper,so'.dst=o.dst->so'.op=sop->aop1 Γ shp sop nb nk v=some r->so=so'->o.wp P a g.w K Q:=fun so' h1 h2 hr' he=>by
     subst he
     have:=kAL hΓ hs hsop h hnb hnk hr'
     cases r with
     | inl p =>
      refine this K Q (fun g' u hp=>?_)
      refine hK p g' _ [] rfl hp.step hp.keeps ?_ ⟨u,hp⟩ (hput _ _) (by rw [knA (by rw [h2];exact hnd)];exact .nil)
      rw [h1]
      exact h.apply hp hdst
     | inr q =>
      obtain ⟨d,hw⟩:=q
      exact this K Q (fun g' u hp hu=>hQ d hw g' u rfl hp hu)
    unfold wpOp
    simp only [hi]
    split at hc
    · rename_i hg
      cases hc
      have hw:Region.wanted o (yielded ops a.tmps)=true:=by unfold Region.wanted;rw [hg]
      rw [if_pos hw]
      exact .inl (run _ rfl rfl hr rfl)
    · rename_i j want hg
      split at hc
      · rename_i t ht
        cases hc
        have hr0:kfq (v.env t) want (fun b=>cond (b==want) (aop1 Γ shp sop nb nk v) (some (.inl ⟨.tup [],[],[],[]⟩)))=some r:=hr
        clear hr
        obtain ⟨b,hb,hr⟩:=keZ hr0
        have hw:Region.wanted o (yielded ops a.tmps)=(b==want):=by
         unfold Region.wanted
         rw [hg]
         show (yielded ops a.tmps j==some want)=_
         rcases hb with hb | ⟨hb,rfl⟩
         · rw [h.guard ht hb]
           cases b<;>cases want<;>rfl
         · rw [h.guard_out ht hb]
           cases want<;>rfl
        rw [hw]
        cases hq:b==want
        · rw [hq] at hr
          cases hr
          rw [if_neg (by simp)]
          have hp:RepP g g ⟨.tup [],[],[],[]⟩ undef:=RepP.pure h (.tup [] [] rfl (fun j hj=>absurd hj (by simp)))
          exact hK _ g _ [] rfl hp.step hp.keeps (h.apply hp hdst) ⟨undef,hp⟩ (hput _ _) (by rw [knA (by exact hnd)];exact .nil)
        · rw [hq] at hr
          rw [if_pos rfl]
          exact .inl (run _ rfl rfl hr rfl)
      · cases hc
  · cases hc
 unfold kdV at hc
 split at hc
 · rename_i hg
   split at hc
   · rename_i sop hsop
     obtain ⟨hd,hc⟩:=kac hc
     cases hc
     have hdst:∀ d,o.dst=some d->d < N:=fun d hd'=>by
      unfold kuz at hd
      rw [hd'] at hd
      exact Nat.le_of_ble_eq_true hd
     have hr:aop1 Γ shp sop nb nk v=some r:=hr
     unfold wpOp
     simp only [hi]
     have hw:Region.wanted o (yielded ops a.tmps)=true:=by unfold Region.wanted;rw [hg]
     rw [if_pos hw]
     refine .inl ?_
     have hp:RepP g g ⟨.junk,[],[],[]⟩ undef:=RepP.pure h (.junk _)
     have fin:∀ (f:FuncId) (vs:List V) (dargs caps:List Value),r=.inl ⟨.junk,[],[],[]⟩->sop.dfs v.env=[(f,vs)]->ka7 g vs (dargs++caps) ->
      (execOp a.eval o).run P g.w=.ok (.defer { target:=.fn (.func f) caps.toArray,args:=dargs.toArray }) g.w->o.wp P a g.w K Q:=fun f vs dargs caps h1 h2 h3 h4=>by
      unfold Oper.wp
      rw [h4]
      show K _ _
      refine hK _ g _ [_] h1 hp.step hp.keeps ?_ ⟨undef,hp⟩ ?_ (show DfR g (sop.dfs v.env) _ by rw [h2];exact .cons f vs dargs caps [] [] h3 .nil)
      · have:=h.apply (dst:=o.dst) hp hdst
        cases hd:o.dst with
        | none=>rw [hd] at this;exact { this with }
        | some d=>rw [hd] at this;exact { this with }
      · cases o.dst<;>rfl
     unfold kyh at hsop
     split at hsop
     · rename_i f xs ts ho
       obtain ⟨ys,hys,rfl⟩:=map_some hsop
       refine fin f _ (xs.toList.map a.eval) [] (kam hr) rfl (by rw [List.append_nil];exact kfs h hys) ?_
       have e:(xs.toList.map a.eval).toArray=xs.map a.eval:=by rw [<- Array.toList_map,Array.toArray_toList]
       have e2:a.eval (.func f)=.func (.func f) #[] #[]:=rfl
       rw [e]
       simp [execOp,ho,resolve,Deferred.ofValue,e2]
     · rename_i x xs ts _ ho
       obtain ⟨y,ys,hy,hys,rfl⟩:=kbm hsop
       have hrep:=kaT h hy
       unfold aop1 at hr
       simp only [aopK] at hr
       split at hr
       · rename_i f caps he
         rw [he] at hrep
         generalize hx:a.eval x=u at hrep
         cases hrep with
         | one _ _ hq =>
          cases hq with
          | fn _ _ us hl hrp =>
           refine fin f _ (xs.toList.map a.eval) us (kam hr) (by simp only [SOp.dfs,he]) (ka7.append (kfs h hys) (kjv ⟨hl,hrp⟩)) ?_
           have e:(xs.toList.map a.eval).toArray=xs.map a.eval:=by rw [<- Array.toList_map,Array.toArray_toList]
           rw [e]
           simp [execOp,ho,resolve,Deferred.ofValue,hx]
       · cases hr
     · cases hsop
   · exact old hc
 · exact old hc
theorem kuC {g g':G} {s s':St} {a:Act} {hw:List (Nat × Blk)} (h:Rep N g s.view a) (hp:RepP g g' ⟨.junk,hw,[],[]⟩ undef) (hs:s'.heap=hw++s.heap):Rep N g' s'.fall.view a:=by
 have h1:=h.apply (dst:=none) hp (fun d hd=>by cases hd)
 have ha:(a.put none undef)=a:=rfl
 rw [ha] at h1
 refine { h1 with env:=fun t=>.junk _,heap:=fun i x hx=>?_,live:=fun κ hκ=>by cases hκ }
 have hx':kaI i s'.fall.heap=some x:=hx
 have:kaI i s'.heap=some x:=by
  have hf:∀ (l:List (Nat × Blk)),kaI i (l.filter fun x=>Nat.blt x.1 s'.nb)=some x->kaI i l=some x:=by
   intro l
   induction l with
   | nil=>exact fun h=>h
   | cons y l ih =>
    intro hl
    rw [List.filter_cons] at hl
    cases hb:Nat.blt y.1 s'.nb
    · rw [hb] at hl
      simp only [Bool.false_eq_true,if_false] at hl
      have:=ih hl
      simp only [kaI]
      cases hq:Nat.beq y.1 i
      · exact this
      · exfalso
        have e:=Nat.eq_of_beq_eq_true hq
        have hno:∀ (l:List (Nat × Blk)),kaI i (l.filter fun x=>Nat.blt x.1 s'.nb)=none:=by
         intro l
         induction l with
         | nil=>rfl
         | cons z l ih2 =>
          rw [List.filter_cons]
          cases hz:Nat.blt z.1 s'.nb
          · simpa using ih2
          · simp only [if_true,kaI]
            cases hzi:Nat.beq z.1 i
            · exact ih2
            · have e2:=Nat.eq_of_beq_eq_true hzi
              rw [e2,<- e,hb] at hz
              cases hz
        rw [hno l] at hl
        cases hl
    · rw [hb] at hl
      simp only [if_true,kaI] at hl ⊢
      cases hq:Nat.beq y.1 i
      · rw [hq] at hl
        exact ih hl
      · rw [hq] at hl
        exact hl
  exact hf _ hx'
 rw [hs,kdQ] at this
 exact h1.heap i x this
theorem kkI {g g':G} {s s':St} {a:Act} {hw:List (Nat × Blk)} (h:Rep N g s.view a) (hp:RepP g g' ⟨.junk,hw,[],[]⟩ undef) (hs:s'.heap=hw++s.heap) (he:s'.view.env=s.view.env) (hl:s'.live=s.live):Rep N g' s'.view a:=by
 have h1:=h.apply (dst:=none) hp (fun d hd=>by cases hd)
 have ha:(a.put none undef)=a:=rfl
 rw [ha] at h1
 have e:s'.view=s.view.patch none ⟨.junk,hw,[],[]⟩:=by
  unfold View.patch
  have e1:s'.view.heap=fun i=>match kaI i hw with | some x=>some x | none=>s.view.heap i:=by
   funext i
   show kaI i s'.heap=_
   rw [hs]
   exact kdQ i hw s.heap
  have e2:s'.view.live=fun κ=>cond (hasN κ []) true (cond (hasN κ []) false (s.view.live κ)):=by
   funext κ
   show hasN κ s'.live=hasN κ s.live
   rw [hl]
  show View.mk s'.view.env s'.view.heap s'.view.live=_
  rw [he,e1,e2]
  rfl
 rw [e]
 exact h1
theorem kro {α:Type} {r:α} {w0:World} (hΓ:keY P w0 Γ) {ops:Array Oper} (Q:Exit->Act->World->Prop) {K:St->Option α} {Kp:D->St->Option α} {g0:G} (hs:Since w0 g0) {np:Nat}
 (hQn:∀ s' g' a',K s'=some r->Step g0 g'->Keeps g0 g'->Rep N g' s'.view a'->Fresh g' s'.nb s'.nk->s'.np=np->DfR g' s'.dfs a'.defers->Q .normal a' g'.w)
 (hQp:∀ d s' g' a' u,Kp d s'=some r->Step g0 g'->Keeps g0 g'->Rep N g' s'.view a'->s'.np=np->DfR g' s'.dfs a'.defers->RepD g'.w g'.φ d u->Q (.panic [{ v:=u,recovered:=false }]) a' g'.w) :
 ∀ (l:List Oper) (sl:List SOper) (i:Nat) (s:St) (g:G) (a:Act),(∀ j,l[j]? = ops[i+j]?)->l.mapM (kdV P N ops)=some sl->opsT Γ shp sl i s K Kp=some r ->
  Step g0 g->Keeps g0 g->Rep N g s.view a->Fresh g (s.nb+i) (s.nk+16*i)->s.np=np->DfR g s.dfs a.defers->wpOps P ops Q (List.range' i l.length) a g.w
 | [],sl,i,s,g,a,hl,hm,h,hst,hkp,hrep,hf,hnp,hdf=>by
  simp only [List.mapM_nil,Option.pure_def,Option.some.injEq] at hm
  subst hm
  exact hQn _ g a h hst hkp hrep hf hnp hdf
 | o :: l,sl,i,s,g,a,hl,hm,h,hst,hkp,hrep,hf,hnp,hdf=>by
  simp only [List.mapM_cons,Option.bind_eq_bind,Option.pure_def] at hm
  cases hc:kdV P N ops o with
  | none=>rw [hc] at hm;cases hm
  | some so =>
   cases hm2:l.mapM (kdV P N ops) with
   | none=>rw [hc,hm2] at hm;cases hm
   | some sl' =>
    rw [hc,hm2] at hm
    simp only [Option.bind_some,Option.some.injEq] at hm
    subst hm
    have hi:ops[i]? = some o:=by simpa using (hl 0).symm
    have hnb:=hf.b (s.nb+i) (Nat.le_refl _)
    have hnk:∀ κ,s.nk+16*i<=κ->κ < s.nk+16*i+16->¬ g.us κ:=fun κ h1 _=>hf.k κ h1
    rw [List.length_cons,List.range'_succ,wpOps_cons]
    unfold opsT at h
    rcases kge h with ⟨p,s',he,hk,hv,h1,h2,h3,h4⟩ | ⟨d,hw,s',he,hk,hv,h1,h2,h3,h4,h5,h6⟩
    · have hpin:=(kiM he).1 p rfl
      refine kuB hΓ hi hc (hst.since hs) hrep hnb hnk he _ Q (fun p' g' a' ds hp' hst' hkp' hrep' ⟨u,hpu⟩ hdf' hdr=>?_) (fun d hw g' u hp' _ _=>by cases hp')
      cases hp'
      have hf':=Fresh.step hrep hpu hpin hf (by omega) (by omega)
      exact kro hΓ Q hs hQn hQp l sl' (i+1) s' g' a' (fun j=>by have:=hl (j+1);rw [List.getElem?_cons_succ] at this;rw [this];congr 1;omega) hm2 hk (hst.trans hst') (hkp.trans hkp') (by rw [hv];exact hrep')
       (by rw [h1,h2];exact ⟨fun q hq=>hf'.b q (by omega),fun q hq=>hf'.k q (by omega)⟩) (by rw [h3,hnp]) (by rw [h4,hdf'];exact hdr.append (hdf.mono hkp'))
    · refine kuB hΓ hi hc (hst.since hs) hrep hnb hnk he _ Q (fun p' g' a' ds hp'=>by cases hp') (fun d' hw' g' u hp' hpp hd=>?_)
      cases hp'
      exact hQp d _ g' a u hk (hst.trans hpp.step) (hkp.trans hpp.keeps) (kkI hrep hpp hv h5 h6) (by rw [h3,hnp]) (by rw [h4];exact hdf.mono hpp.keeps) hd
end
end Go.Proofs.YtaphnbaiamnfpaaGreatDoor.Ps
