/- Regions that draw their order. -/
import Derived.Test.YtaphnbaiamnfpaaGreatDoorPsQ
namespace Go.Proofs.YtaphnbaiamnfpaaGreatDoor.Ps
set_option linter.unusedVariables false
set_option linter.unusedSimpArgs false
open Go Go.RowKit
section
variable {α:Type} {E E':Nat->V}
def AgE (E E':Nat->V) (xs:List SArg):Prop:=∀ x,x∈xs->ev E' x=ev E x
theorem krp:∀ {xs:List SArg},AgE E E' xs->evL E' xs=evL E xs
 | [],h=>rfl
 | x :: xs,h=>by
  unfold evL
  rw [h x (by simp),krp (fun y hy=>h y (by simp [hy]))]
theorem kkK:∀ {ps:List (Nat × Nat × SArg)},AgE E E' (ps.map (·.2.2))->∀ (cs:List X) (K:List X->Option α),kdB E' ps cs K=kdB E ps cs K
 | [],h,cs,K=>rfl
 | (off,n,a) :: ps,h,cs,K=>by
  unfold kdB
  rw [h a (by simp)]
  congr 1;funext p
  rw [kkK (fun y hy=>h y (by simp only [List.map_cons,List.mem_cons];exact .inr hy))]
theorem krq {sz:Nat}:∀ {ps:List SArg},AgE E E' ps->∀ (K:List (List D)->Option α),litK E' sz ps K=litK E sz ps K
 | [],h,K=>rfl
 | a :: ps,h,K=>by
  unfold litK
  rw [h a (by simp)]
  congr 1;funext p
  congr 2;funext row
  exact krq (fun y hy=>h y (by simp [hy])) _
theorem knB:∀ {ps:List SArg},AgE E E' ps->∀ (K:List X->Option α),khy E' ps K=khy E ps K
 | [],h,K=>rfl
 | a :: ps,h,K=>by
  unfold khy
  rw [h a (by simp)]
  split
  · exact knB (fun y hy=>h y (by simp [hy])) _
  · rfl
theorem kjB {d:Int} {a:Option SArg} (h:AgE E E' a.toList) (K:Int->Option α):optK E' d a K=optK E d a K:=by
 cases a with
 | none=>rfl
 | some x =>
  show gInt .i64 (ev E' x) K=gInt .i64 (ev E x) K
  rw [h x (by simp)]
variable (Γ:SemL) (shp:FuncId->Sh)
theorem knC {H H':Nat->Option Blk}:∀ {ids:List Nat},(∀ b,b∈ids->H' b=H b)->∀ (K:List Blk->List (List Lf × List X)->Option α),kfZ H' ids K=kfZ H ids K
 | [],h,K=>rfl
 | b :: ids,h,K=>by
  unfold kfZ
  rw [h b (by simp)]
  congr 1;funext x
  congr 1;funext row
  exact knC (fun y hy=>h y (by simp [hy])) _
theorem knD {f:FuncId} {vs:List V} {H H':Nat->Option Blk} {L:Nat->Bool} (h:∀ b,b∈V.idsL vs []->H' b=H b) (nk:Nat) (K:Patch->Option α) (Kp:D->List (Nat × Blk)->Option α):kc9 Γ shp f vs H' L nk K Kp=kc9 Γ shp f vs H L nk K Kp:=by
 unfold kc9
 exact knC h _
theorem kuE {so:SOp} {H:Nat->Option Blk} {L:Nat->Bool} (h:AgE E E' so.args) (nb nk:Nat) (K:Patch->Option α) (Kp:D->List (Nat × Blk)->Option α):aopK Γ shp so nb nk ⟨E',H,L⟩ K Kp=aopK Γ shp so nb nk ⟨E,H,L⟩ K Kp:=by
 cases so
 case load agg n a=>have e:=h a (by simp [SOp.args]);cases agg<;>simp only [aopK,e]
 case field agg off n x=>have e:=h x (by simp [SOp.args]);cases agg<;>simp only [aopK,e]
 case len str x=>have e:=h x (by simp [SOp.args]);cases str<;>simp only [aopK,e]
 case pick c a b=>simp only [aopK,h c (by simp [SOp.args]),h a (by simp [SOp.args]),h b (by simp [SOp.args])]
 case alloc sh row=>rfl
 case allocB e=>rfl
 case boxB e x=>simp only [aopK,h x (by simp [SOp.args])]
 case dfr f args=>rfl
 case dfrv x args=>simp only [aopK,h x (by simp [SOp.args])]
 case build zero ps=>simp only [aopK];exact kkK h _ _
 case lit e sz ps=>simp only [aopK];exact krq h _
 case mkF f caps=>simp only [aopK];exact knB h _
 case call f args =>
  have e:evL E' args=evL E args:=krp h
  simp only [aopK,e]
 case callv x args =>
  have e:evL E' args=evL E args:=krp (fun y hy=>h y (by simp only [SOp.args,List.mem_cons];exact .inr hy))
  simp only [aopK,h x (by simp [SOp.args]),e]
 case sub x lo hi =>
  have h1:AgE E E' lo.toList:=fun y hy=>h y (by simp only [SOp.args,List.mem_cons,List.mem_append];exact .inr (.inl hy))
  have h2:AgE E E' hi.toList:=fun y hy=>h y (by simp only [SOp.args,List.mem_cons,List.mem_append];exact .inr (.inr hy))
  simp only [aopK,h x (by simp [SOp.args]),kjB h1,kjB h2]
 case subl sz x lo hi =>
  have h1:AgE E E' lo.toList:=fun y hy=>h y (by simp only [SOp.args,List.mem_cons,List.mem_append];exact .inr (.inl hy))
  have h2:AgE E E' hi.toList:=fun y hy=>h y (by simp only [SOp.args,List.mem_cons,List.mem_append];exact .inr (.inr hy))
  simp only [aopK,h x (by simp [SOp.args]),kjB h1,kjB h2]
 case store n a x=>simp only [aopK,h a (by simp [SOp.args]),h x (by simp [SOp.args])]
 case iaddr sz x i=>simp only [aopK,h x (by simp [SOp.args]),h i (by simp [SOp.args])]
 case aaddr len sz x i=>simp only [aopK,h x (by simp [SOp.args]),h i (by simp [SOp.args])]
 case chr x i=>simp only [aopK,h x (by simp [SOp.args]),h i (by simp [SOp.args])]
 case ibin k op x y=>simp only [aopK,h x (by simp [SOp.args]),h y (by simp [SOp.args])]
 case sbin op x y=>simp only [aopK,h x (by simp [SOp.args]),h y (by simp [SOp.args])]
 case bbin op x y=>simp only [aopK,h x (by simp [SOp.args]),h y (by simp [SOp.args])]
 case aeq neg ls x y=>simp only [aopK,h x (by simp [SOp.args]),h y (by simp [SOp.args])]
 case mnmx mx x y=>simp only [aopK,h x (by simp [SOp.args]),h y (by simp [SOp.args])]
 case app e sz bytes x y=>simp only [aopK,h x (by simp [SOp.args]),h y (by simp [SOp.args])]
 case mov x=>simp only [aopK,h x (by simp [SOp.args])]
 case box sh x=>simp only [aopK,h x (by simp [SOp.args])]
 case faddr off x=>simp only [aopK,h x (by simp [SOp.args])]
 case inil neg x=>simp only [aopK,h x (by simp [SOp.args])]
 case inot x=>simp only [aopK,h x (by simp [SOp.args])]
 case ineg k x=>simp only [aopK,h x (by simp [SOp.args])]
 case conv k k' x=>simp only [aopK,h x (by simp [SOp.args])]
 case bstr x=>simp only [aopK,h x (by simp [SOp.args])]
 case mkI t x=>simp only [aopK,h x (by simp [SOp.args])]
 case ext x i=>simp only [aopK,h x (by simp [SOp.args])]
 case nchk x=>simp only [aopK,h x (by simp [SOp.args])]
 case pan x=>simp only [aopK,h x (by simp [SOp.args])]
theorem krr (b off:Nat):b∈V.idsL [.one (.ptr b off)] []:=by
 simp [V.idsL,V.ids,X.ids,hasN]
theorem krs {so:SOp} {H H':Nat->Option Blk} {L:Nat->Bool} (h:∀ b,b∈so.feet E->H' b=H b) (nb nk:Nat) (K:Patch->Option α) (Kp:D->List (Nat × Blk)->Option α):aopK Γ shp so nb nk ⟨E,H',L⟩ K Kp=aopK Γ shp so nb nk ⟨E,H,L⟩ K Kp:=by
 cases so
 case load agg n a =>
  simp only [SOp.feet] at h
  cases agg <;>
  · simp only [aopK]
    unfold gPtr
    split
    · rename_i b off he
      rw [he] at h
      simp only [h b (krr b off)]
    · rfl
    · rfl
 case store n a x =>
  simp only [SOp.feet] at h
  simp only [aopK]
  unfold gPtr
  split
  · rename_i b off he
    rw [he] at h
    simp only [h b (krr b off)]
  · rfl
  · rfl
 case call f args=>simp only [aopK];exact knD Γ shp h _ _ _
 case callv x args =>
  simp only [SOp.feet] at h
  simp only [aopK]
  split
  · rename_i f caps he
    rw [he] at h
    exact knD Γ shp h _ _ _
  · rfl
 case field agg off n x=>cases agg<;>rfl
 case len str x=>cases str<;>rfl
 all_goals rfl
theorem kpy {β:Type} {sz:Nat} {v:V} {K K':List (List D)->Option β} {r:β} (h:kfo sz v K=some r) (hk:∀ new,K new=some r->K' new=some r):kfo sz v K'=some r:=by
 unfold kfo at *
 split at h
 · obtain ⟨h1,h2⟩:=kac h
   show cond _ _ _=_
   rw [h1]
   exact hk _ h2
 · obtain ⟨h1,h2⟩:=kac h
   show cond _ _ _=_
   rw [h1]
   exact hk _ h2
 · exact hk _ h
 · cases h
theorem kiO {f:FuncId} {vs:List V} {H:Nat->Option Blk} {L L':Nat->Bool} {nk:Nat} {r:Res} (hr:kc9 (α:=Res) Γ shp f vs H L nk (fun p=>some (.inl p)) (fun d hw=>some (.inr (d,hw)))=some r)
 (h:∀ p,r=.inl p->∀ κ,hasN κ p.kill=true->L' κ=L κ):kc9 (α:=Res) Γ shp f vs H L' nk (fun p=>some (.inl p)) (fun d hw=>some (.inr (d,hw)))=some r:=by
 have key:∀ (ids:List Nat) (K K':List Blk->List (List Lf × List X)->Option Res),(∀ bs rows,K bs rows=some r->K' bs rows=some r)->kfZ H ids K=some r->kfZ H ids K'=some r:=by
  intro ids
  induction ids with
  | nil=>exact fun K K' hk h=>hk _ _ h
  | cons b ids ih =>
   intro K K' hk h
   unfold kfZ at h ⊢
   obtain ⟨x,hx,h⟩:=kbD h
   rw [hx]
   show gHs x.sh x.row _=_
   have push:∀ (row:List X) (ls:List Lf) (G G':List X->Option Res),(∀ y,G y=some r->G' y=some r)->gHs ls row G=some r->gHs ls row G'=some r:=by
    intro row
    induction row with
    | nil=>intro ls G G' hg h;unfold gHs at h ⊢;exact hg _ h
    | cons z row ihr =>
     intro ls G G' hg h
     unfold gHs at h ⊢
     have one:∀ (l:Lf) (z:X) (F F':X->Option Res),(∀ y,F y=some r->F' y=some r)->gH l z F=some r->gH l z F'=some r:=by
      intro l z F F' hf h
      unfold gH at h ⊢
      split at h
      · rename_i e sz
        cases hq:z.isOwn e sz with
        | true =>
         rw [hq] at h
         exact hf _ h
        | false =>
         rw [hq] at h
         obtain ⟨h1,h2⟩:=kac (show cond z.isJ _ none=_ from h)
         rw [h1]
         exact hf _ h2
      · obtain ⟨h1,h2⟩:=kac h
        rw [h1]
        exact hf _ h2
      · unfold gD at h ⊢
        split at h<;>first | exact hf _ h | cases h
     exact one _ _ _ _ (fun y hy=>ihr _ _ _ (fun ys hys=>hg _ hys) hy) h
   exact push _ _ _ _ (fun y hy=>ih _ _ (fun bs rows hb=>hk _ _ hb) hy) h
 unfold kc9 at hr ⊢
 refine key _ _ _ (fun blks rows hk=>?_) hr
 obtain ⟨hl,hk⟩:=kac hk
 have hk0:=hk
 rw [Bool.and_eq_true] at hl
 have hL:allL L' (kas rows)=true:=by
  rw [Option.bind_eq_some_iff] at hk
  obtain ⟨out,hout,hk⟩:=hk
  obtain ⟨hw,c0,_,hk,hw1,hw2⟩:=keh hk
  cases hok:out.ok with
  | true =>
   rw [hok] at hk
   simp only [cond_true] at hk
   obtain ⟨x,c,_,hk,_⟩:=keg _ hk
   obtain ⟨_,hk⟩:=kac hk
   refine kei.2 (fun κ hκ=>?_)
   have:=h _ (Option.some.inj hk).symm κ ((kaZ _ _).2 hκ)
   rw [this]
   exact kei.1 hl.1 κ hκ
  | false =>
   rw [hok] at hk
   simp only [cond_false] at hk
   obtain ⟨hc,_⟩:=kac hk
   rw [Bool.and_eq_true] at hc
   rw [List.isEmpty_iff.1 hc.2]
   rfl
 show cond (_&&_) _ _=_
 rw [hL,hl.2]
 exact hk0
theorem krt {so:SOp} {H:Nat->Option Blk} {L L':Nat->Bool} {nb nk:Nat} {r:Res} (hr:aop1 Γ shp so nb nk ⟨E,H,L⟩=some r) (h:∀ p,r=.inl p->∀ κ,hasN κ p.kill=true->L' κ=L κ):aop1 Γ shp so nb nk ⟨E,H,L'⟩=some r:=by
 unfold aop1 at *
 cases so
 case app e sz bytes x y =>
  simp only [aopK] at hr ⊢
  refine kpy hr (fun new hn=>?_)
  obtain ⟨h2,hn⟩:=kac hn
  rw [h2,cond_true]
  clear hr
  generalize ev E x=vx at hn ⊢
  split at hn
  · rename_i κ e' s rows
    obtain ⟨h3,hn⟩:=kac hn
    have hL:=h _ (kam hn) κ (by simp [hasN])
    simp only [hL,h3,cond_true]
    exact hn
  · exact hn
  · cases hn
 case load agg n a=>cases agg<;>exact hr
 case field agg off n x=>cases agg<;>exact hr
 case len str x=>cases str<;>exact hr
 case call f args=>exact kiO Γ shp hr h
 case callv x args =>
  simp only [aopK] at hr ⊢
  revert hr
  cases ev E x with
  | one y =>
   cases y with
   | fn f caps=>exact fun hr=>kiO Γ shp hr h
   | _=>exact fun hr=>hr
  | _=>exact fun hr=>hr
 all_goals exact hr
theorem kkL {o:SOper} {nb nk:Nat} {v v':View} {r:Res} (h:kcV Γ shp o nb nk v=some r) (h1:∀ t,t∈o.sees->v'.env t=v.env t) (h2:∀ b,b∈o.op.feet v.env->v'.heap b=v.heap b)
 (h3:∀ p,r=.inl p->∀ κ,hasN κ p.kill=true->v'.live κ=v.live κ):kcV Γ shp o nb nk v'=some r:=by
 have hag:AgE v.env v'.env o.op.args:=fun x hx=>by
  cases x with
  | t n=>exact h1 n (by unfold SOper.sees;exact List.mem_append_left _ (List.mem_flatMap.2 ⟨_,hx,by simp [SArg.slots]⟩))
  | k v=>rfl
 have run:∀ r,aop1 Γ shp o.op nb nk v=some r->(∀ p,r=.inl p->∀ κ,hasN κ p.kill=true->v'.live κ=v.live κ)->aop1 Γ shp o.op nb nk v'=some r:=fun r hr h3=>by
  have e1:aop1 Γ shp o.op nb nk v'=aop1 Γ shp o.op nb nk ⟨v.env,v'.heap,v'.live⟩:=kuE Γ shp hag nb nk _ _
  have e2:aop1 Γ shp o.op nb nk ⟨v.env,v'.heap,v'.live⟩=aop1 Γ shp o.op nb nk ⟨v.env,v.heap,v'.live⟩:=krs Γ shp h2 nb nk _ _
  rw [e1,e2]
  exact krt Γ shp hr h3
 unfold kcV at *
 cases hg:o.guard with
 | none =>
  rw [hg] at h
  exact run r h h3
 | some q =>
  obtain ⟨j,t,want⟩:=q
  rw [hg] at h
  have et:v'.env t=v.env t:=h1 t (by unfold SOper.sees;rw [hg];exact List.mem_append_right _ (by simp))
  have h':kfq (v.env t) want (fun b=>cond (b==want) (aop1 Γ shp o.op nb nk v) (some (.inl ⟨.tup [],[],[],[]⟩)))=some r:=h
  show kfq (v'.env t) want (fun b=>cond (b==want) (aop1 Γ shp o.op nb nk v') (some (.inl ⟨.tup [],[],[],[]⟩)))=some r
  rw [et]
  obtain ⟨b,hb,h'⟩:=keZ h'
  have e:∀ K:Bool->Option Res,kfq (v.env t) want K=K b:=fun K=>by
   rcases hb with hb | ⟨hb,rfl⟩<;>rw [hb]<;>rfl
  rw [e]
  show cond (b==want) _ _=_
  cases hq:b==want
  · rw [hq] at h'
    exact h'
  · rw [hq] at h'
    exact run r h' h3
end
section
variable {β:Type}
def fold (w:Nat->Option β) (L:Nat->Bool):Nat->β->β
 | 0,x=>x
 | k+1,x=>cond (L k) ((w k).getD (fold w L k x)) (fold w L k x)
theorem kfz {w w':Nat->Option β} {L:Nat->Bool} {x:β}:∀ {n:Nat},(∀ k,k < n->w k=w' k)->fold w L n x=fold w' L n x
 | 0,h=>rfl
 | n+1,h=>by
  simp only [fold]
  rw [h n (by omega),kfz (fun k hk=>h k (by omega))]
theorem khQ {w:Nat->Option β} {L:Nat->Bool} {x:β} {i:Nat}:∀ {n:Nat},i<=n->(∀ k,i<=k->k < n->w k ≠ none->L k=false)->fold w L n x=fold w L i x
 | 0,hi,h=>by
  have:i=0:=by omega
  subst this
  rfl
 | n+1,hi,h=>by
  by_cases he:i=n+1
  · subst he;rfl
  · simp only [fold]
    have ih:=khQ (w:=w) (L:=L) (x:=x) (n:=n) (i:=i) (by omega) (fun k h1 h2=>h k h1 (by omega))
    cases hw:w n with
    | none =>
     rw [ih]
     cases L n<;>rfl
    | some y =>
     have:=h n (by omega) (by omega) (by rw [hw];simp)
     rw [this]
     exact ih
theorem kel {w:Nat->Option β} {L L':Nat->Bool} {x:β}:∀ {i:Nat},(∀ k,k < i->w k ≠ none->L k=L' k)->fold w L i x=fold w L' i x
 | 0,h=>rfl
 | i+1,h=>by
  simp only [fold]
  have ih:=kel (w:=w) (L:=L) (L':=L') (x:=x) (i:=i) (fun k hk=>h k (by omega))
  cases hw:w i with
  | none =>
   rw [ih]
   cases L i<;>cases L' i<;>rfl
  | some y =>
   rw [ih,h i (by omega) (by rw [hw];simp)]
def tick (L:Nat->Bool) (i:Nat):Nat->Bool:=fun k=>cond (Nat.beq i k) true (L k)
theorem kdc (L:Nat->Bool) (i:Nat):tick L i i=true:=by simp [tick]
theorem kgg {L:Nat->Bool} {i k:Nat} (h:k ≠ i):tick L i k=L k:=by
 have:Nat.beq i k=false:=by
  cases hq:Nat.beq i k
  · rfl
  · exact absurd (Nat.eq_of_beq_eq_true hq).symm h
 simp [tick,this]
theorem kem {w:Nat->Option β} {L:Nat->Bool} {x:β} {i n:Nat} (hi:i<=n) (h1:∀ k,k < i->w k ≠ none->L k=true) (h2:∀ k,i<=k->k < n->w k ≠ none->L k=false):fold w L n x=fold w (fun _=>true) i x :=
 (khQ hi h2).trans (kel h1)
theorem khR {w:Nat->Option β} {L:Nat->Bool} {x:β} {i n:Nat} (hi:i < n) (hL:L i=false) (h:w i ≠ none->∀ k,i < k->k < n->w k ≠ none->L k=false):fold w (tick L i) n x=(w i).getD (fold w L n x):=by
 cases hw:w i with
 | none =>
  show _=fold w L n x
  exact kel (fun k hk hwk=>kgg (fun e=>by subst e;exact hwk hw))
 | some y =>
  rw [khQ (i:=i+1) hi (fun k h1 h2 h3=>by rw [kgg (by omega)];exact h (by rw [hw];simp) k (by omega) h2 h3)]
  simp only [fold,kdc,hw]
  rfl
end
inductive Ent where
 | ok (dst:Option Nat) (p:Patch)
 | pan (d:D) (hw:List (Nat × Blk))
 | un
def Ent.wE (t:Nat):Ent->Option V
 | .ok (some d) p=>cond (Nat.beq d t) (some p.x) none
 | _=>none
def Ent.wB (b:Nat):Ent->Option (Option Blk)
 | .ok _ p=>match kaI b p.hw with | some x=>some (some x) | none=>none
 | _=>none
def Ent.wK (κ:Nat):Ent->Option Bool
 | .ok _ p=>cond (hasN κ p.born) (some true) (cond (hasN κ p.kill) (some false) none)
 | _=>none
def vAt (v0:View) (ent:Nat->Ent) (L:Nat->Bool) (n:Nat):View :=
 ⟨fun t=>fold (fun k=>(ent k).wE t) L n (v0.env t),fun b=>fold (fun k=>(ent k).wB b) L n (v0.heap b),fun κ=>fold (fun k=>(ent k).wK κ) L n (v0.live κ)⟩
theorem kru (t:Nat) (dst:Option Nat) (p:Patch) (x:V):((Ent.ok dst p).wE t).getD x=(match dst with | some d=>cond (Nat.beq d t) p.x x | none=>x):=by
 cases dst with
 | none=>rfl
 | some d=>simp only [Ent.wE];cases Nat.beq d t<;>rfl
theorem krv (b:Nat) (dst:Option Nat) (p:Patch) (x:Option Blk):((Ent.ok dst p).wB b).getD x=(match kaI b p.hw with | some x=>some x | none=>x):=by
 simp only [Ent.wB];cases kaI b p.hw<;>rfl
theorem krw (κ:Nat) (dst:Option Nat) (p:Patch) (x:Bool):((Ent.ok dst p).wK κ).getD x=cond (hasN κ p.born) true (cond (hasN κ p.kill) false x):=by
 simp only [Ent.wK];cases hasN κ p.born<;>cases hasN κ p.kill<;>rfl
section
variable {v0:View} {ent ent':Nat->Ent} {L:Nat->Bool}
theorem kDL {k:Nat} {dst:Option Nat} {p:Patch} (hL:L k=true) (h:ent k=.ok dst p):vAt v0 ent L (k+1)=(vAt v0 ent L k).patch dst p:=by
 unfold vAt View.patch
 simp only [fold,hL,h,cond_true,krv,krw]
 congr 1
 funext t
 exact kru t dst p _
theorem kyi {k:Nat} (h:∀ dst p,ent k ≠ .ok dst p):vAt v0 ent L (k+1)=vAt v0 ent L k:=by
 unfold vAt
 simp only [fold]
 cases he:ent k with
 | ok dst p=>exact absurd he (h dst p)
 | pan d hw=>cases L k<;>rfl
 | un=>cases L k<;>rfl
theorem kuF {n:Nat} (h:∀ k,k < n->ent k=ent' k):vAt v0 ent L n=vAt v0 ent' L n:=by
 unfold vAt
 congr 1
 · funext t;exact kfz (fun k hk=>by rw [h k hk])
 · funext t;exact kfz (fun k hk=>by rw [h k hk])
 · funext t;exact kfz (fun k hk=>by rw [h k hk])
end
theorem kkM {g:Nat->Nat} {m:Nat}:∀ (a:List Nat) (s0:Nat),(a.foldl (fun s j=>s ||| (2 ^ j ||| g j)) s0).testBit m=true->s0.testBit m=true∨∃ j,j∈a∧(m=j∨(g j).testBit m=true)
 | [],s0,h=>.inl h
 | j :: a,s0,h=>by
  rw [List.foldl_cons] at h
  rcases kkM a _ h with h1 | ⟨j',h1,h2⟩
  · rw [Nat.testBit_or,Nat.testBit_or,Nat.testBit_two_pow,Bool.or_eq_true,Bool.or_eq_true,decide_eq_true_eq] at h1
    rcases h1 with h1 | h1 | h1
    · exact .inl h1
    · exact .inr ⟨j,by simp,.inl h1.symm⟩
    · exact .inr ⟨j,by simp,.inr h1⟩
  · exact .inr ⟨j',by simp [h1],h2⟩
theorem kuG (as:List (List Nat)):∀ (acc:List Nat),∃ R,as.foldl (fun acc a=>acc++[a.foldl (fun s j=>s ||| (2 ^ j ||| acc.getD j 0)) 0]) acc=R∧R.length=acc.length+as.length ∧
 (∀ i,i < acc.length->R.getD i 0=acc.getD i 0) ∧
 ∀ i a m,as[i]? = some a->(R.getD (acc.length+i) 0).testBit m=true->∃ j,j∈a∧(m=j∨(R.getD j 0).testBit m=true):=by
 induction as with
 | nil=>exact fun acc=>⟨acc,rfl,rfl,fun i hi=>rfl,fun i a m h=>by cases h⟩
 | cons a as ih =>
  intro acc
  obtain ⟨R,h1,h2,h3,h4⟩:=ih (acc++[a.foldl (fun s j=>s ||| (2 ^ j ||| acc.getD j 0)) 0])
  rw [List.length_append,List.length_singleton] at h2 h3 h4
  have hacc:∀ i,i < acc.length->R.getD i 0=acc.getD i 0:=fun i hi=>by
   rw [h3 i (by omega)]
   simp only [List.getD_eq_getElem?_getD]
   rw [List.getElem?_append_left hi]
  refine ⟨R,h1,by rw [List.length_cons];omega,hacc,fun i b m hb hm=>?_⟩
  cases i with
  | zero =>
   cases hb
   rw [Nat.add_zero,h3 _ (by omega)] at hm
   have e:(acc++[a.foldl (fun s j=>s ||| (2 ^ j ||| acc.getD j 0)) 0]).getD acc.length 0=a.foldl (fun s j=>s ||| (2 ^ j ||| acc.getD j 0)) 0:=by
    simp [List.getD_eq_getElem?_getD]
   rw [e] at hm
   rcases kkM a 0 hm with h5 | ⟨j,h5,h6⟩
   · simp at h5
   · refine ⟨j,h5,?_⟩
     rcases h6 with h6 | h6
     · exact .inl h6
     · by_cases hj:j < acc.length
       · rw [hacc j hj];exact .inr h6
       · rw [List.getD_eq_getElem?_getD,List.getElem?_eq_none (by omega)] at h6
         simp at h6
  | succ i =>
   rw [List.getElem?_cons_succ] at hb
   exact h4 i b m hb (by rw [show acc.length+1+i=acc.length+(i+1) by omega];exact hm)
theorem kkN {as:List (List Nat)} {i m:Nat} {a:List Nat} (h:as[i]? = some a) (hm:((kbV as).getD i 0).testBit m=true):∃ j,j∈a∧(m=j∨((kbV as).getD j 0).testBit m=true):=by
 obtain ⟨R,h1,_,_,h4⟩:=kuG as []
 unfold kbV at *
 rw [h1] at hm ⊢
 exact h4 i a m h (by simpa using hm)
theorem ke0:∀ {as:List (List Nat)} {k:Nat},kcS as k=true->∀ i a j,as[i]? = some a->j∈a->j < k+i
 | [],k,h,i,a,j,ha,hj=>by cases ha
 | b :: as,k,h,i,a,j,ha,hj=>by
  unfold kcS at h
  rw [Bool.and_eq_true] at h
  cases i with
  | zero =>
   cases ha
   have:=List.all_eq_true.1 h.1 j hj
   exact Nat.lt_of_lt_of_le (by simpa [Nat.blt_eq] using this) (Nat.le_refl _)
  | succ i =>
   have:=ke0 h.2 i a j ha hj
   omega
theorem kuH {as:List (List Nat)} (h:kcS as 0=true):∀ (i m:Nat),i < as.length->((kbV as).getD i 0).testBit m=true->m < i:=by
 intro i
 induction i using Nat.strongRecOn with
 | _ i ih =>
  intro m hi hm
  obtain ⟨j,hj,hmj⟩:=kkN (List.getElem?_eq_getElem hi) hm
  have:=ke0 h i _ j (List.getElem?_eq_getElem hi) hj
  rcases hmj with rfl | hmj
  · omega
  · have:=ih j (by omega) m (by omega) hmj
    omega
theorem kpz {xs ys:List Nat}:kfr xs ys=true ↔ ∀ x,x∈xs->x ∉ ys:=by
 induction xs with
 | nil=>simp [kfr]
 | cons x xs ih =>
  unfold kfr
  cases h:hasN x ys
  · have hx:x ∉ ys:=fun hm=>by rw [(kaZ x ys).2 hm] at h;cases h
    rw [cond_false,ih]
    simp [hx]
  · have hx:=(kaZ x ys).1 h
    simp [hx]
theorem kiP {fs:List Foot} {ah:List Nat} (h:kf1 fs ah=true) {i j:Nat} (hij:i < j) (hj:j < fs.length):((ah.getD j 0).testBit i)=true∨(fs.getD i default).apart (fs.getD j default)=true:=by
 unfold kf1 at h
 have h1:=List.all_eq_true.1 h j (List.mem_range.2 hj)
 have h2:=List.all_eq_true.1 h1 i (List.mem_range.2 hij)
 cases hq:(ah.getD j 0).testBit i
 · rw [hq] at h2
   exact .inr h2
 · exact .inl rfl
section
variable (Γ:SemL) (shp:FuncId->Sh) (ah:List Nat) (nb nk:Nat) (v0:View) (sl:List SOper)
def Foot.pan (E:Nat->V) (o:SOper):Foot:=⟨Option.none,o.sees,o.op.feet E,[],[]⟩
def Good (ent:Nat->Ent) (fs:List Foot) (i:Nat):Prop :=
 ∃ o,sl[i]? = some o ∧
  ((∃ p,ent i=.ok o.dst p∧kcV Γ shp o (nb+i) (nk+16*i) (vAt v0 ent (fun _=>true) i)=some (.inl p)∧fs[i]? = some (Foot.of (vAt v0 ent (fun _=>true) i).env o p)) ∨
   (∃ d hw,ent i=.pan d hw∧kcV Γ shp o (nb+i) (nk+16*i) (vAt v0 ent (fun _=>true) i)=some (.inr (d,hw))∧fs[i]? = some (Foot.pan (vAt v0 ent (fun _=>true) i).env o)) ∨
   (ent i=.un∧fs[i]? = some Foot.none∧∃ j d hw,j < i∧ent j=.pan d hw∧(ah.getD i 0).testBit j=true))
def krx (np:Nat) (df0:List (FuncId × List V)) (ent:Nat->Ent) (i:Nat):Option (Nat × D × St)->Prop
 | none=>∀ k,k < i->∃ dst p,ent k=.ok dst p
 | some (j,d,s1)=>j < i∧(∃ (hw:List (Nat × Blk)) (s':St) (H:List (Nat × Blk)),ent j=.pan d hw∧s1=s'.fall∧s'.nb=nb∧(s'.np=np∧s'.dfs=df0)∧s'.heap=hw++H∧∀ b,kaI b H=(vAt v0 ent (fun _=>true) j).heap b)∧∀ k d' hw',k < i->ent k=.pan d' hw'->k=j
variable {Γ shp ah nb nk v0 sl}
def upd (ent:Nat->Ent) (i:Nat) (e:Ent):Nat->Ent:=fun k=>if k=i then e else ent k
theorem kcf {ent:Nat->Ent} {i:Nat} {e:Ent}:upd ent i e i=e:=by simp [upd]
theorem kgu {ent:Nat->Ent} {i k:Nat} {e:Ent} (h:k < i):upd ent i e k=ent k:=by
 have:k ≠ i:=by omega
 simp [upd,this]
theorem kie {ent:Nat->Ent} {i k:Nat} {e:Ent} {L:Nat->Bool} (h:k<=i):vAt v0 (upd ent i e) L k=vAt v0 ent L k:=kuF (fun m hm=>kgu (by omega))
theorem Good.more {ent:Nat->Ent} {fs:List Foot} {i k:Nat} {e:Ent} {F:Foot} (hf:fs.length=i) (hk:k < i) (h:Good Γ shp ah nb nk v0 sl ent fs k):Good Γ shp ah nb nk v0 sl (upd ent i e) (fs++[F]) k:=by
 obtain ⟨o,ho,h⟩:=h
 refine ⟨o,ho,?_⟩
 rw [kgu hk,kie (Nat.le_of_lt hk),List.getElem?_append_left (by omega)]
 rcases h with h | h | ⟨h1,h2,j,d,hw,h3,h4,h5⟩
 · exact .inl h
 · exact .inr (.inl h)
 · exact .inr (.inr ⟨h1,h2,j,d,hw,h3,by rw [kgu (by omega)];exact h4,h5⟩)
def Final {α:Type} (ah:List Nat) (nb nk:Nat) (K:St->Option α) (Kp:D->St->Option α) (r:α) (n:Nat) (fs:List Foot) (s:St):Option (Nat × D × St)->Prop
 | none=>K { s with nb:=nb+n,nk:=nk+16*n }=some r
 | some (j,d,s1)=>kq3 fs ah j nb=true∧Kp d s1=some r
theorem ken {α:Type} {r:α} {K:St->Option α} {Kp:D->St->Option α} {np:Nat} {df0:List (FuncId × List V)} (hnd:∀ o,o∈sl->o.op.isDf=false):∀ (l:List SOper) (i:Nat) (s:St) (fs:List Foot) (pn:Option (Nat × D × St)) (ent:Nat->Ent),
 opsD Γ shp ah l i s fs pn K Kp=some r->(∀ k,l[k]? = sl[i+k]?)->s.nb=nb->s.nk=nk->(s.np=np∧s.dfs=df0)->s.view=vAt v0 ent (fun _=>true) i->fs.length=i ->
 (∀ k,k < i->Good Γ shp ah nb nk v0 sl ent fs k)->krx nb v0 np df0 ent i pn ->
 ∃ (ent':Nat->Ent) (fs':List Foot) (pn':Option (Nat × D × St)) (s':St),(∀ k,k < i+l.length->Good Γ shp ah nb nk v0 sl ent' fs' k)∧fs'.length=i+l.length∧kf1 fs' ah=true∧krx nb v0 np df0 ent' (i+l.length) pn' ∧
  s'.nb=nb∧s'.nk=nk∧(s'.np=np∧s'.dfs=df0)∧s'.view=vAt v0 ent' (fun _=>true) (i+l.length) ∧
  Final ah nb nk K Kp r (i+l.length) fs' s' pn'
 | [],i,s,fs,pn,ent,h,hl,h1,h2,h3,hv,hf,hg,hp=>by
  unfold opsD at h
  obtain ⟨h4,h⟩:=kac h
  refine ⟨ent,fs,pn,s,hg,hf,h4,hp,h1,h2,h3,hv,?_⟩
  cases pn with
  | none =>
   have h':K { s with nb:=s.nb+i,nk:=s.nk+16*i }=some r:=h
   rw [h1,h2] at h'
   exact h'
  | some q =>
   obtain ⟨j,d,s1⟩:=q
   have h':cond (kq3 fs ah j s.nb) (Kp d s1) none=some r:=h
   obtain ⟨h5,h6⟩:=kac h'
   rw [h1] at h5
   exact ⟨h5,h6⟩
 | o :: l,i,s,fs,pn,ent,h,hl,h1,h2,h3,hv,hf,hg,hp=>by
  have ho:sl[i]? = some o:=by simpa using (hl 0).symm
  have hno:o.op.isDf=false:=hnd o (List.mem_of_getElem? ho)
  have hl':∀ k,l[k]? = sl[i+1+k]?:=fun k=>by have:=hl (k+1);rw [List.getElem?_cons_succ] at this;rw [this];congr 1;omega
  have hlen:∀ F:Foot,(fs++[F]).length=i+1:=fun F=>by simp [hf]
  have elen:i+(o :: l).length=i+1+l.length:=by rw [List.length_cons];omega
  have hvE:(fun t=>look t s.env)=(vAt v0 ent (fun _=>true) i).env:=by rw [<- hv];rfl
  have hat:∀ F:Foot,(fs++[F])[i]? = some F:=fun F=>by rw [List.getElem?_append_right (by omega),hf];simp
  rw [elen]
  have ok:∀ p s' pn1,kcV Γ shp o (s.nb+i) (s.nk+16*i) s.view=some (.inl p)->opsD Γ shp ah l (i+1) s' (fs++[Foot.of (fun t=>look t s.env) o p]) pn1 K Kp=some r->s'.view=s.view.patch o.dst p ->
   s'.nb=s.nb->s'.nk=s.nk->(s'.np=s.np∧s'.dfs=o.dfs s.view.env++s.dfs)->krx nb v0 np df0 (upd ent i (.ok o.dst p)) (i+1) pn1->_:=fun p s' pn1 he hk hv' e1 e2 e3 hpn =>
   ken hnd l (i+1) s' _ pn1 (upd ent i (.ok o.dst p)) hk hl' (e1.trans h1) (e2.trans h2) ⟨e3.1.trans h3.1,by rw [e3.2,knA hno];exact h3.2⟩ (by rw [kDL rfl kcf,kie (Nat.le_refl _),hv',hv]) (hlen _)
    (fun k hk=>by
     by_cases hki:k=i
     · subst hki
       refine ⟨o,ho,.inl ⟨p,kcf,?_,?_⟩⟩
       · rw [kie (Nat.le_refl _),<- hv,<- h1,<- h2];exact he
       · rw [kie (Nat.le_refl _),<- hvE];exact hat _
     · exact (hg k (by omega)).more hf (by omega)) hpn
  unfold opsD at h
  cases pn with
  | none =>
   rcases kge h with ⟨p,s',he,hk,hv',e1,e2,e3⟩ | ⟨d,hw,s',he,hk,hh,e1,e2,e3,e4,_⟩
   · refine ok p s' none he hk hv' e1 e2 e3 ?_
     intro k hk
     by_cases hki:k=i
     · subst hki;exact ⟨_,_,kcf⟩
     · rw [kgu (by omega)];exact hp k (by omega)
   · refine ken hnd l (i+1) s _ _ (upd ent i (.pan d hw)) hk hl' h1 h2 h3 (by rw [kyi (by rw [kcf];intros;simp),kie (Nat.le_refl _),hv]) (hlen _) (fun k hk=>?_) ⟨by omega,⟨hw,s',s.heap,kcf,rfl,e1.trans h1,⟨e3.trans h3.1,e4.trans h3.2⟩,hh,fun b=>by
      rw [kie (Nat.le_refl _),<- hv];rfl⟩,fun k d' hw' hk hp'=>?_⟩
     · by_cases hki:k=i
       · subst hki
         refine ⟨o,ho,.inr (.inl ⟨d,hw,kcf,?_,?_⟩)⟩
         · rw [kie (Nat.le_refl _),<- hv,<- h1,<- h2];exact he
         · rw [kie (Nat.le_refl _),<- hvE];exact hat _
       · exact (hg k (by omega)).more hf (by omega)
     · by_cases hki:k=i
       · exact hki
       · rw [kgu (by omega)] at hp'
         obtain ⟨_,_,hok⟩:=hp k (by omega)
         rw [hok] at hp'
         cases hp'
  | some q =>
   obtain ⟨j,d,s1⟩:=q
   obtain ⟨hj,⟨hw,s2,H,hpj,hs1,hs2,hs3,hs4,hs5⟩,huq⟩:=hp
   have hkeep:∀ e:Ent,(∀ d' hw',e ≠ .pan d' hw')->krx nb v0 np df0 (upd ent i e) (i+1) (some (j,d,s1)):=fun e hne =>
    ⟨by omega,⟨hw,s2,H,by rw [kgu hj];exact hpj,hs1,hs2,hs3,hs4,fun b=>by rw [kie (Nat.le_of_lt hj)];exact hs5 b⟩,fun k d' hw' hk hp'=>by
     by_cases hki:k=i
     · subst hki;rw [kcf] at hp';exact absurd hp' (hne _ _)
     · rw [kgu (by omega)] at hp';exact huq k d' hw' (by omega) hp'⟩
   have h':cond ((ah.getD i 0).testBit j) (opsD Γ shp ah l (i+1) s (fs++[Foot.none]) (some (j,d,s1)) K Kp)
    (kpm Γ shp o i s (fun p s'=>opsD Γ shp ah l (i+1) s' (fs++[Foot.of (fun t=>look t s.env) o p]) (some (j,d,s1)) K Kp) (fun _ _=>none))=some r:=h
   cases hb:(ah.getD i 0).testBit j
   · rw [hb,cond_false] at h'
     rcases kge h' with ⟨p,s',he,hk,hv',e1,e2,e3⟩ | ⟨d,hw,s',he,hk,hh,e1,e2,e3⟩
     · exact ok p s' _ he hk hv' e1 e2 e3 (hkeep _ (fun d' hw'=>by simp))
     · cases hk
   · rw [hb] at h'
     refine ken hnd l (i+1) s _ _ (upd ent i .un) h' hl' h1 h2 h3 (by rw [kyi (by rw [kcf];intros;simp),kie (Nat.le_refl _),hv]) (hlen _) (fun k hk=>?_) (hkeep _ (fun d' hw'=>by simp))
     by_cases hki:k=i
     · subst hki
       exact ⟨o,ho,.inr (.inr ⟨kcf,hat _,j,d,hw,hj,by rw [kgu hj];exact hpj,hb⟩)⟩
     · exact (hg k (by omega)).more hf (by omega)
end
structure Apt (x y:Foot):Prop where
 d1:∀ d,x.dst=some d->d ∉ y.sees∧y.dst ≠ some d
 d2:∀ d,y.dst=some d->d ∉ x.sees
 b1:∀ b,b∈x.wb->b ∉ y.rb∧b ∉ y.wb
 b2:∀ b,b∈y.wb->b ∉ x.rb
 k1:∀ κ,κ∈x.ks->κ ∉ y.ks
theorem apt {x y:Foot} (h:x.apart y=true):Apt x y:=by
 unfold Foot.apart at h
 simp only [Bool.and_eq_true,kpz] at h
 obtain ⟨⟨⟨⟨h1,h2⟩,h3⟩,h4⟩,h5⟩:=h
 exact ⟨fun d hd=>by
  have:=h1 d (by rw [hd];simp)
  rw [List.mem_append] at this
  exact ⟨fun hm=>this (.inl hm),fun hm=>this (.inr (by rw [hm];simp))⟩,
  fun d hd=>h2 d (by rw [hd];simp),
  fun b hb=>by
   have:=h3 b hb
   rw [List.mem_append] at this
   exact ⟨fun hm=>this (.inl hm),fun hm=>this (.inr hm)⟩,h4,h5⟩
section
variable {Γ:SemL} {shp:FuncId->Sh} {ah:List Nat} {nb nk:Nat} {v0:View} {sl:List SOper} {ent:Nat->Ent} {fs:List Foot}
theorem Good.wE {k t:Nat} (h:Good Γ shp ah nb nk v0 sl ent fs k) (hw:(ent k).wE t ≠ none):(fs.getD k default).dst=some t:=by
 obtain ⟨o,ho,⟨p,h1,h2,h3⟩ | ⟨d,hw',h1,h2,h3⟩ | ⟨h1,h2,_⟩⟩:=h
 · rw [h1] at hw
   rw [List.getD_eq_getElem?_getD,h3]
   show o.dst=some t
   cases hd:o.dst with
   | none=>rw [hd] at hw;exact absurd rfl hw
   | some d =>
    rw [hd] at hw
    simp only [Ent.wE] at hw
    cases hq:Nat.beq d t
    · rw [hq] at hw;exact absurd rfl hw
    · rw [Nat.eq_of_beq_eq_true hq]
 · rw [h1] at hw;exact absurd rfl hw
 · rw [h1] at hw;exact absurd rfl hw
theorem kkO {b:Nat} {x:Blk}:∀ {l:List (Nat × Blk)},kaI b l=some x->b∈l.map (·.1)
 | [],h=>by cases h
 | (k,y) :: l,h=>by
  simp only [kaI] at h
  cases hq:Nat.beq k b
  · rw [hq] at h
    simp only [List.map_cons,List.mem_cons]
    exact .inr (kkO h)
  · simp only [List.map_cons,List.mem_cons]
    exact .inl (Nat.eq_of_beq_eq_true hq).symm
theorem Good.wB {k b:Nat} (h:Good Γ shp ah nb nk v0 sl ent fs k) (hw:(ent k).wB b ≠ none):b∈(fs.getD k default).wb:=by
 obtain ⟨o,ho,⟨p,h1,h2,h3⟩ | ⟨d,hw',h1,h2,h3⟩ | ⟨h1,h2,_⟩⟩:=h
 · rw [h1] at hw
   rw [List.getD_eq_getElem?_getD,h3]
   show b∈p.hw.map (·.1)
   simp only [Ent.wB] at hw
   cases hq:kaI b p.hw with
   | none=>rw [hq] at hw;exact absurd rfl hw
   | some x=>exact kkO hq
 · rw [h1] at hw;exact absurd rfl hw
 · rw [h1] at hw;exact absurd rfl hw
theorem Good.wK {k κ:Nat} (h:Good Γ shp ah nb nk v0 sl ent fs k) (hw:(ent k).wK κ ≠ none):κ∈(fs.getD k default).ks:=by
 obtain ⟨o,ho,⟨p,h1,h2,h3⟩ | ⟨d,hw',h1,h2,h3⟩ | ⟨h1,h2,_⟩⟩:=h
 · rw [h1] at hw
   rw [List.getD_eq_getElem?_getD,h3]
   show κ∈p.kill++p.born
   simp only [Ent.wK] at hw
   rw [List.mem_append]
   cases hb:hasN κ p.born
   · cases hq:hasN κ p.kill
     · rw [hb,hq] at hw;exact absurd rfl hw
     · exact .inl ((kaZ _ _).1 hq)
   · exact .inr ((kaZ _ _).1 hb)
 · rw [h1] at hw;exact absurd rfl hw
 · rw [h1] at hw;exact absurd rfl hw
structure Turn (ah:List Nat) (fs:List Foot) (n:Nat) (L:Nat->Bool) (i:Nat):Prop where
 len:fs.length=n
 feet:kf1 fs ah=true
 at_:i < n
 no:L i=false
 ahead:∀ m,(ah.getD i 0).testBit m=true->L m=true
 closed:∀ k m,L k=true->(ah.getD k 0).testBit m=true->L m=true
theorem Turn.lo {n:Nat} {L:Nat->Bool} {i k:Nat} (h:Turn ah fs n L i) (hk:k < i):L k=true∨Apt (fs.getD k default) (fs.getD i default):=by
 rcases kiP h.feet hk (by rw [h.len];exact h.at_) with h1 | h1
 · exact .inl (h.ahead k h1)
 · exact .inr (apt h1)
theorem Turn.hi {n:Nat} {L:Nat->Bool} {i k:Nat} (h:Turn ah fs n L i) (hk:i < k) (hkn:k < n):L k=false∨Apt (fs.getD i default) (fs.getD k default):=by
 rcases kiP h.feet hk (by rw [h.len];exact hkn) with h1 | h1
 · refine .inl ?_
   cases hL:L k
   · rfl
   · have:=h.closed k i hL h1
     rw [h.no] at this
     cases this
 · exact .inr (apt h1)
theorem Turn.eval {n:Nat} {L:Nat->Bool} {i:Nat} (h:Turn ah fs n L i) (hg:∀ k,k < n->Good Γ shp ah nb nk v0 sl ent fs k) {o:SOper} {r:Res}
 (hr:kcV Γ shp o (nb+i) (nk+16*i) (vAt v0 ent (fun _=>true) i)=some r)
 (hs:(fs.getD i default).sees=o.sees) (hb:(fs.getD i default).rb=o.op.feet (vAt v0 ent (fun _=>true) i).env) (hk:∀ p,r=.inl p->∀ κ,hasN κ p.kill=true->κ∈(fs.getD i default).ks) (hno:∀ dst p,ent i=.ok dst p->r=.inl p) :
 kcV Γ shp o (nb+i) (nk+16*i) (vAt v0 ent L n)=some r:=by
 refine kkL Γ shp hr (fun t ht=>?_) (fun b hb'=>?_) (fun p hp κ hκ=>?_)
 · refine kem (Nat.le_of_lt h.at_) (fun k hki hw=>?_) (fun k hki hkn hw=>?_)
   · have hd:=(hg k (by have:=h.at_;omega)).wE hw
     rcases h.lo hki with h1 | h1
     · exact h1
     · exact absurd (hs▸ht) (h1.d1 t hd).1
   · by_cases he:k=i
     · rw [he];exact h.no
     · have hd:=(hg k hkn).wE hw
       rcases h.hi (by omega) hkn with h1 | h1
       · exact h1
       · exact absurd (hs▸ht) (h1.d2 t hd)
 · refine kem (Nat.le_of_lt h.at_) (fun k hki hw=>?_) (fun k hki hkn hw=>?_)
   · have hd:=(hg k (by have:=h.at_;omega)).wB hw
     rcases h.lo hki with h1 | h1
     · exact h1
     · exact absurd (hb▸hb') (h1.b1 b hd).1
   · by_cases he:k=i
     · rw [he];exact h.no
     · have hd:=(hg k hkn).wB hw
       rcases h.hi (by omega) hkn with h1 | h1
       · exact h1
       · exact absurd (hb▸hb') (h1.b2 b hd)
 · have hmem:=hk p hp κ hκ
   refine kem (Nat.le_of_lt h.at_) (fun k hki hw=>?_) (fun k hki hkn hw=>?_)
   · have hd:=(hg k (by have:=h.at_;omega)).wK hw
     rcases h.lo hki with h1 | h1
     · exact h1
     · exact absurd hmem (h1.k1 κ hd)
   · by_cases he:k=i
     · rw [he];exact h.no
     · have hd:=(hg k hkn).wK hw
       rcases h.hi (by omega) hkn with h1 | h1
       · exact h1
       · exact absurd hd (h1.k1 κ hmem)
theorem Turn.done {n:Nat} {L:Nat->Bool} {i:Nat} (h:Turn ah fs n L i) (hg:∀ k,k < n->Good Γ shp ah nb nk v0 sl ent fs k) {dst:Option Nat} {p:Patch} (he:ent i=.ok dst p) :
 vAt v0 ent (tick L i) n=(vAt v0 ent L n).patch dst p:=by
 unfold vAt View.patch
 congr 1
 · funext t
   have e:=khR (w:=fun k=>(ent k).wE t) (L:=L) (x:=v0.env t) h.at_ h.no (fun hw k hik hkn hwk=>by
    have h1:=(hg i h.at_).wE hw
    have h2:=(hg k hkn).wE hwk
    rcases h.hi hik hkn with h3 | h3
    · exact h3
    · exact absurd h2 (h3.d1 t h1).2)
   refine e.trans ?_
   rw [he]
   exact kru _ _ _ _
 · funext b
   have e:=khR (w:=fun k=>(ent k).wB b) (L:=L) (x:=v0.heap b) h.at_ h.no (fun hw k hik hkn hwk=>by
    have h1:=(hg i h.at_).wB hw
    have h2:=(hg k hkn).wB hwk
    rcases h.hi hik hkn with h3 | h3
    · exact h3
    · exact absurd h2 (h3.b1 b h1).2)
   refine e.trans ?_
   rw [he]
   exact krv _ _ _ _
 · funext κ
   have e:=khR (w:=fun k=>(ent k).wK κ) (L:=L) (x:=v0.live κ) h.at_ h.no (fun hw k hik hkn hwk=>by
    have h1:=(hg i h.at_).wK hw
    have h2:=(hg k hkn).wK hwk
    rcases h.hi hik hkn with h3 | h3
    · exact h3
    · exact absurd h2 (h3.k1 κ h1))
   refine e.trans ?_
   rw [he]
   exact krw _ _ _ _
theorem Turn.old {n:Nat} {L:Nat->Bool} {i:Nat} (h:Turn ah fs n L i) (hg:∀ k,k < n->Good Γ shp ah nb nk v0 sl ent fs k) (hlt:∀ m,(ah.getD i 0).testBit m=true->m < i) (hp:kq3 fs ah i nb=true) {b:Nat} (hb:b < nb) :
 (vAt v0 ent L n).heap b=(vAt v0 ent (fun _=>true) i).heap b:=by
 have key:∀ k,k < n->k ≠ i->(ent k).wB b ≠ none->(ah.getD i 0).testBit k=true:=fun k hkn hne hw=>by
  have h1:=(hg k hkn).wB hw
  unfold kq3 at hp
  have h2:=List.all_eq_true.1 hp k (List.mem_range.2 (by rw [h.len];exact hkn))
  have h3:Nat.beq k i=false:=by
   cases hq:Nat.beq k i
   · rfl
   · exact absurd (Nat.eq_of_beq_eq_true hq) hne
  rw [h3,cond_false] at h2
  cases hq:(ah.getD i 0).testBit k
  · rw [hq,cond_false] at h2
    have:=List.all_eq_true.1 h2 b h1
    have:=Nat.le_of_ble_eq_true this
    omega
  · rfl
 refine kem (Nat.le_of_lt h.at_) (fun k hki hw=>?_) (fun k hki hkn hw=>?_)
 · exact h.ahead k (key k (by have:=h.at_;omega) (by omega) hw)
 · by_cases he:k=i
   · rw [he];exact h.no
   · have:=hlt k (key k hkn he hw)
     omega
end
theorem Rep.less {N:Nat} {g:G} {v v':View} {a:Act} (h:Rep N g v a) (h1:∀ t,v'.env t=.junk) (h2:∀ b x,v'.heap b=some x->v.heap b=some x) (h3:∀ κ,v'.live κ=false):Rep N g v' a :=
 { h with
  env:=fun t=>by rw [h1 t];exact .junk _
  heap:=fun i x hx=>h.heap i x (h2 i x hx)
  live:=fun κ hκ=>by rw [h3 κ] at hκ;cases hκ }
theorem kdW {nb b:Nat} {x:Blk}:∀ {l:List (Nat × Blk)},kaI b (l.filter fun x=>Nat.blt x.1 nb)=some x->b < nb∧kaI b l=some x
 | [],h=>by cases h
 | (k,y) :: l,h=>by
  rw [List.filter_cons] at h
  cases hb:Nat.blt k nb
  · rw [hb] at h
    simp only [Bool.false_eq_true,if_false] at h
    obtain ⟨h1,h2⟩:=kdW h
    refine ⟨h1,?_⟩
    simp only [kaI]
    cases hq:Nat.beq k b
    · exact h2
    · have:=Nat.eq_of_beq_eq_true hq
      subst this
      have:Nat.blt k nb=true:=by rw [Nat.blt_eq];exact h1
      rw [this] at hb
      cases hb
  · rw [hb] at h
    simp only [if_true,kaI] at h ⊢
    cases hq:Nat.beq k b
    · rw [hq] at h
      exact kdW h
    · rw [hq] at h
      have:=Nat.eq_of_beq_eq_true hq
      subst this
      exact ⟨by rw [Nat.blt_eq] at hb;exact hb,h⟩
theorem kuI {N:Nat} {g g':G} {v:View} {s':St} {a:Act} {hw H:List (Nat × Blk)} (h:Rep N g v a) (hp:RepP g g' ⟨.junk,hw,[],[]⟩ undef) (hs:s'.heap=hw++H) (hv:∀ b,b < s'.nb->v.heap b=kaI b H):Rep N g' s'.fall.view a:=by
 have h1:Rep N g (St.view ⟨[],H.filter fun x=>Nat.blt x.1 s'.nb,[],s'.nb,s'.nk,s'.np,s'.dfs⟩) a:=h.less (fun t=>rfl) (fun b x hx=>by
  obtain ⟨h2,h3⟩:=kdW (l:=H) hx
  rw [hv b h2]
  exact h3) (fun κ=>rfl)
 have h2:=kuC (s':=⟨[],hw++H.filter fun x=>Nat.blt x.1 s'.nb,[],s'.nb,s'.nk,s'.np,s'.dfs⟩) h1 hp rfl
 have e:St.fall ⟨[],hw++H.filter fun x=>Nat.blt x.1 s'.nb,[],s'.nb,s'.nk,s'.np,s'.dfs⟩=s'.fall:=by
  unfold St.fall
  simp only [hs,List.filter_append,List.filter_filter,Bool.and_self]
 rw [e] at h2
 exact h2
def G.draw (g:G):G:={ g with w:={ g.w with drawn:=g.w.drawn+1 } }
theorem keo (g:G):Keeps g g.draw:=⟨⟨fun _ _ _=>rfl,fun _=>Nat.le_refl _⟩,fun _ _ h=>h,fun _ _ _ h=>h,fun _ h=>h,fun _ _ _ _ h=>h⟩
theorem kry (g:G):Step g g.draw:=⟨rfl,rfl,rfl,Nat.le_refl _,(keo g).ext,fun _ _ _=>⟨rfl,rfl⟩,fun b h=>.inl h⟩
theorem kuJ {N:Nat} {g:G} {v:View} {a:Act} (h:Rep N g v a):Rep N g.draw v a where
 size:=h.size
 env:=fun t=>(h.env t).mono (keo g)
 heap:=fun i x hx=>by
  obtain ⟨B,hB⟩:=h.heap i x hx
  exact ⟨B,hB.mono (keo g) ⟨rfl,rfl⟩⟩
 inj:=h.inj
 lt:=h.lt
 live:=h.live
 own:=fun κ e s u hu=>by
  have ho:=h.own κ e s u hu
  obtain ⟨n,xs,hr,hφ⟩:=ho.row
  exact ⟨⟨n,xs,kcT hr (fun _ _=>rfl),hφ⟩,ho.no⟩
 dist:=h.dist
 used:=h.used
 fresh:=h.fresh
theorem khS {ops:Array Oper} {listed:Array Bool} {i:Nat}:i∈Region.ready .any ops listed ↔ i < ops.size∧listed.getD i true=false∧∃ o,ops[i]? = some o∧∀ j,j∈afters o->listed.getD j false=true:=by
 unfold Region.ready
 rw [List.mem_filter,List.mem_range,Bool.and_eq_true,Bool.not_eq_true']
 refine and_congr_right (fun h1=>and_congr_right (fun h2=>?_))
 rw [Array.getElem?_eq_getElem h1]
 simp only [Option.map_some,Option.getD_some,Option.some.injEq]
 have key:(ops[i].after.all fun e=>!Region.binds .any e || listed.getD e.on false)=true ↔ ∀ j,j∈afters ops[i]->listed.getD j false=true:=by
  rw [<- Array.all_toList,List.all_eq_true]
  unfold afters
  constructor
  · intro h j hj
    rw [List.mem_filterMap] at hj
    obtain ⟨e,he,hj⟩:=hj
    have:=h e he
    cases hb:Region.binds .any e
    · rw [hb] at hj;cases hj
    · rw [hb] at hj this
      cases hj
      simpa using this
  · intro h e he
    cases hb:Region.binds .any e
    · rfl
    · have:=h e.on (List.mem_filterMap.2 ⟨e,he,by rw [hb];rfl⟩)
      simpa using this
 rw [key]
 exact ⟨fun h=>⟨_,rfl,h⟩,fun ⟨o,ho,h⟩=>by rw [ho];exact h⟩
section
variable {P:Program} {N:Nat} {Γ:SemL} {shp:FuncId->Sh}
theorem klV {f:Oper->Option SOper}:∀ {l:List Oper} {sl:List SOper},l.mapM f=some sl->sl.length=l.length∧∀ (i:Nat) (o:Oper),l[i]? = some o->∃ so:SOper,sl[i]? = some so∧f o=some so
 | [],sl,h=>by
  simp only [List.mapM_nil,Option.pure_def,Option.some.injEq] at h
  subst h
  exact ⟨rfl,fun i o h=>by cases h⟩
 | x :: l,sl,h=>by
  simp only [List.mapM_cons,Option.bind_eq_bind,Option.pure_def] at h
  cases hc:f x with
  | none=>rw [hc] at h;cases h
  | some so =>
   cases hm:l.mapM f with
   | none=>rw [hc,hm] at h;cases h
   | some sl' =>
    rw [hc,hm] at h
    simp only [Option.bind_some,Option.some.injEq] at h
    subst h
    obtain ⟨h1,h2⟩:=klV hm
    refine ⟨by simp [h1],fun i o hi=>?_⟩
    cases i with
    | zero=>cases hi;exact ⟨so,rfl,hc⟩
    | succ i=>exact h2 i o hi
structure Done (N:Nat) (ah:List Nat) (v0:View) (ent:Nat->Ent) (n nb nk:Nat) (df:List Deferred) (g0 g:G) (a:Act) (L:Nat->Bool):Prop where
 lt:∀ k,L k=true->k < n
 ok:∀ k,L k=true->∃ dst p,ent k=.ok dst p
 closed:∀ k m,L k=true->(ah.getD k 0).testBit m=true->L m=true
 step:Step g0 g
 keeps:Keeps g0 g
 rep:Rep N g (vAt v0 ent L n) a
 nβ:∀ q,nb<=q->g.β q ≠ none->∃ k,L k=true∧q=nb+k
 nκ:∀ κ,nk<=κ->g.us κ->∃ k,L k=true∧nk+16*k<=κ∧κ < nk+16*k+16
 df:a.defers=df
theorem kuK {α:Type} {r:α} {w0:World} (hΓ:keY P w0 Γ) {ops:Array Oper} {Q:Exit->Act->World->Prop} {K:St->Option α} {Kp:D->St->Option α} {g0:G} (hs:Since w0 g0) {np nb nk:Nat} {df:List Deferred}
 (hQn:∀ s' g' a',K s'=some r->Step g0 g'->Keeps g0 g'->Rep N g' s'.view a'->Fresh g' s'.nb s'.nk->s'.np=np->DfR g' s'.dfs a'.defers->Q .normal a' g'.w)
 (hQp:∀ d s' g' a' u,Kp d s'=some r->Step g0 g'->Keeps g0 g'->Rep N g' s'.view a'->s'.np=np->DfR g' s'.dfs a'.defers->RepD g'.w g'.φ d u->Q (.panic [{ v:=u,recovered:=false }]) a' g'.w)
 {sl:List SOper} (hm:ops.toList.mapM (kdV P N ops)=some sl) {df0:List (FuncId × List V)} (hdf0:DfR g0 df0 df) (hnd:∀ o,o∈sl->o.op.isDf=false) (ha:kcS (sl.map (·.after)) 0=true) {v0:View} {ent:Nat->Ent} {fs:List Foot} {pn:Option (Nat × D × St)} {s':St}
 (hg:∀ k,k < sl.length->Good Γ shp (kbV (sl.map (·.after))) nb nk v0 sl ent fs k) (hfl:fs.length=sl.length) (hfo:kf1 fs (kbV (sl.map (·.after)))=true)
 (hpn:krx nb v0 np df0 ent sl.length pn) (hnp:s'.np=np) (hsd:s'.dfs=df0) (hsv:s'.view=vAt v0 ent (fun _=>true) sl.length) (hF:Final (kbV (sl.map (·.after))) nb nk K Kp r sl.length fs s' pn) :
 ∀ (fuel:Nat) (listed:Array Bool) (L:Nat->Bool) (rem:List Nat) (g:G) (a:Act),listed.size=ops.size->(∀ k,listed.getD k false=L k)->rem.length<=fuel->(∀ k,k < sl.length->L k=false->k∈rem) ->
  Done N (kbV (sl.map (·.after))) v0 ent sl.length nb nk df g0 g a L->wpAny P .any ops Q fuel listed a g.w:=by
 obtain ⟨hlen0,hco⟩:=klV hm
 have hlen:sl.length=ops.size:=hlen0.trans Array.length_toList
 clear hlen0
 have hco':∀ (i:Nat) (o:Oper),ops[i]? = some o->∃ so:SOper,sl[i]? = some so∧kdV P N ops o=some so:=fun i o h=>hco i o (by rw [Array.getElem?_toList];exact h)
 have haft0:∀ o so,kgd P N ops o=some so->so.after=afters o:=fun o so h=>by
  unfold kgd at h
  split at h
  · obtain ⟨_,h⟩:=kac h
    split at h
    · cases h;rfl
    · split at h
      · cases h;rfl
      · cases h
  · cases h
 have haft:∀ o so,kdV P N ops o=some so->so.after=afters o:=fun o so h=>by
  unfold kdV at h
  split at h
  · split at h
    · obtain ⟨_,h⟩:=kac h
      cases h;rfl
    · exact haft0 o so h
  · exact haft0 o so h
 have hend:∀ (listed:Array Bool) (L:Nat->Bool) (g:G) (a:Act),listed.size=ops.size->(∀ k,listed.getD k false=L k)->Done N (kbV (sl.map (·.after))) v0 ent sl.length nb nk df g0 g a L ->
  Region.ready .any ops listed=[]->Q .normal a g.w:=fun listed L g a hsz hL hd hr=>by
  have all:∀ i,i < sl.length->L i=true:=by
   intro i
   induction i using Nat.strongRecOn with
   | _ i ih =>
    intro hi
    cases hLi:L i with
    | true=>rfl
    | false =>
     exfalso
     have hi':i < ops.size:=by omega
     have ho:ops[i]? = some ops[i]:=Array.getElem?_eq_getElem hi'
     obtain ⟨so,hso,hc⟩:=hco' i _ ho
     have hmem:i∈Region.ready .any ops listed:=khS.2 ⟨hi',by
      have:=hL i
      rw [hLi] at this
      rw [Array.getD_eq_getD_getElem?,Array.getElem?_eq_getElem (by omega)] at this ⊢
      exact this,_,ho,fun j hj=>by
       rw [hL j]
       have hlt:=ke0 ha i so.after j (by rw [List.getElem?_map,hso];rfl) (by rw [haft _ _ hc];exact hj)
       exact ih j (by omega) (by omega)⟩
     rw [hr] at hmem
     cases hmem
  have hv:vAt v0 ent L sl.length=vAt v0 ent (fun _=>true) sl.length:=by
   unfold vAt
   congr 1
   · funext t;exact kel (fun k hk _=>all k hk)
   · funext t;exact kel (fun k hk _=>all k hk)
   · funext t;exact kel (fun k hk _=>all k hk)
  cases pn with
  | some q =>
   obtain ⟨j,d,s1⟩:=q
   obtain ⟨hj,⟨hw,_,_,hp,_⟩,_⟩:=hpn
   obtain ⟨_,_,hok⟩:=hd.ok j (all j hj)
   rw [hok] at hp
   cases hp
  | none =>
   refine hQn _ g a hF hd.step hd.keeps ?_ ⟨fun q hq=>?_,fun κ hκ hu=>?_⟩ hnp (by show DfR g s'.dfs a.defers;rw [hd.df,hsd];exact hdf0.mono hd.keeps)
   · have:=hd.rep
     rw [hv,<- hsv] at this
     exact this
   · have hq':nb+sl.length<=q:=hq
     cases hb:g.β q with
     | none=>rfl
     | some B =>
      obtain ⟨k,h1,h2⟩:=hd.nβ q (by omega) (by rw [hb];simp)
      have:=hd.lt k h1
      omega
   · have hκ':nk+16*sl.length<=κ:=hκ
     obtain ⟨k,h1,h2,h3⟩:=hd.nκ κ (by omega) hu
     have:=hd.lt k h1
     omega
 intro fuel
 induction fuel with
 | zero =>
  intro listed L rem g a hsz hL hrl hrem hd
  have hr:Region.ready .any ops listed=[]:=by
   rw [List.eq_nil_iff_forall_not_mem]
   intro i hi
   obtain ⟨h1,h2,_⟩:=khS.1 hi
   have hLi:L i=false:=by
    rw [<- hL i]
    rw [Array.getD_eq_getD_getElem?,Array.getElem?_eq_getElem (by omega)] at h2 ⊢
    exact h2
   have:=hrem i (by omega) hLi
   rw [List.eq_nil_of_length_eq_zero (Nat.le_zero.1 hrl)] at this
   cases this
  exact ⟨hr,hend listed L g a hsz hL hd hr⟩
 | succ fuel ih =>
  intro listed L rem g a hsz hL hrl hrem hd
  refine ⟨hend listed L g a hsz hL hd,fun i hi=>?_⟩
  obtain ⟨hin,hli,o,ho,haf⟩:=khS.1 hi
  obtain ⟨so,hso,hc⟩:=hco' i o ho
  have hisl:i < sl.length:=by omega
  have hLi:L i=false:=by
   rw [<- hL i]
   rw [Array.getD_eq_getD_getElem?,Array.getElem?_eq_getElem (by omega)] at hli ⊢
   exact hli
  have hahead:∀ m,((kbV (sl.map (·.after))).getD i 0).testBit m=true->L m=true:=fun m hm=>by
   obtain ⟨j,hj,hmj⟩:=kkN (a:=so.after) (by rw [List.getElem?_map,hso];rfl) hm
   have hLj:L j=true:=by rw [<- hL j];exact haf j (by rw [<- haft _ _ hc];exact hj)
   rcases hmj with rfl | hmj
   · exact hLj
   · exact hd.closed j m hLj hmj
  have hturn:Turn (kbV (sl.map (·.after))) fs sl.length L i:=⟨hfl,hfo,hisl,hLi,hahead,hd.closed⟩
  have hnb:g.β (nb+i)=none:=by
   cases hb:g.β (nb+i) with
   | none=>rfl
   | some B =>
    obtain ⟨k,h1,h2⟩:=hd.nβ (nb+i) (by omega) (by rw [hb];simp)
    have:k=i:=by omega
    subst this
    rw [hLi] at h1
    cases h1
  have hnk:∀ κ,nk+16*i<=κ->κ < nk+16*i+16->¬ g.us κ:=fun κ h1 h2 hu=>by
   obtain ⟨k,h3,h4,h5⟩:=hd.nκ κ (by omega) hu
   have:k=i:=by omega
   subst this
   rw [hLi] at h3
   cases h3
  obtain ⟨o',ho',hcase⟩:=hg i hisl
  rw [hso] at ho'
  cases ho'
  rcases hcase with ⟨p,he,hev,hf⟩ | ⟨d,hw,he,hev,hf⟩ | ⟨he,hf,j,d,hw,hj,hpj,hbit⟩
  · have hfd:fs.getD i default=Foot.of (vAt v0 ent (fun _=>true) i).env so p:=by rw [List.getD_eq_getElem?_getD,hf];rfl
    have hev':=hturn.eval hg hev (by rw [hfd];rfl) (by rw [hfd];rfl) (fun p' hp' κ hκ=>by
     cases hp'
     rw [hfd]
     exact List.mem_append_left _ ((kaZ _ _).1 hκ)) (fun dst p' hp'=>by rw [he] at hp';cases hp';rfl)
    have hpin:=(kiM hev').1 p rfl
    refine kuB hΓ ho hc (hd.step.since hs) hd.rep hnb hnk hev' _ Q (fun p' g' a' ds hp' hst hkp hrep ⟨u,hpu⟩ hdf hdr=>?_) (fun d hw g' u hp' _ _=>by cases hp')
    cases hp'
    refine ih (listed.setIfInBounds i true) (tick L i) (rem.erase i) g' a' (by simp [hsz]) (fun k=>?_) ?_ (fun k hk hLk=>?_) ?_
    · rw [Array.getD_eq_getD_getElem?,Array.getElem?_setIfInBounds]
      by_cases hki:i=k
      · subst hki
        rw [kdc]
        simp [hsz,hin]
      · rw [kgg (fun e=>hki e.symm),<- hL k,Array.getD_eq_getD_getElem?]
        simp [hki]
    · rw [List.length_erase_of_mem (hrem i hisl hLi)]
      omega
    · have hki:k ≠ i:=fun e=>by subst e;rw [kdc] at hLk;cases hLk
      rw [kgg hki] at hLk
      exact (List.mem_erase_of_ne hki).2 (hrem k hk hLk)
    · have up:∀ k,L k=true->tick L i k=true:=fun k hk=>by
       by_cases hki:k=i
       · subst hki;exact kdc _ _
       · rw [kgg hki];exact hk
      have down:∀ k,tick L i k=true->k=i∨L k=true:=fun k hk=>by
       by_cases hki:k=i
       · exact .inl hki
       · rw [kgg hki] at hk;exact .inr hk
      exact {
       lt:=fun k hk=>by
        rcases down k hk with rfl | h1
        · exact hisl
        · exact hd.lt k h1
       ok:=fun k hk=>by
        rcases down k hk with rfl | h1
        · exact ⟨_,_,he⟩
        · exact hd.ok k h1
       closed:=fun k m hk hm=>by
        rcases down k hk with rfl | h1
        · exact up m (hahead m hm)
        · exact up m (hd.closed k m h1 hm)
       step:=hd.step.trans hst
       keeps:=hd.keeps.trans hkp
       rep:=by rw [hturn.done hg he];exact hrep
       nβ:=fun q hq hb=>by
        cases hB:g'.β q with
        | none=>exact absurd hB hb
        | some B =>
         rcases hpu.new q B hB with h3 | ⟨h3,_,_,h4,_⟩
         · obtain ⟨k,h5,h6⟩:=hd.nβ q hq (by rw [h3];simp)
           exact ⟨k,up k h5,h6⟩
         · obtain ⟨x,hx⟩:=Option.isSome_iff_exists.1 h4
           rcases hpin.hw q x hx with h5 | h5
           · exact ⟨i,kdc _ _,h5⟩
           · obtain ⟨y,hy⟩:=Option.isSome_iff_exists.1 h5
             obtain ⟨B',hB'⟩:=hd.rep.heap q y hy
             rw [hB'.at_] at h3
             cases h3
       nκ:=fun κ hκ hu=>by
        rcases hpu.use κ hu with h3 | h3
        · obtain ⟨k,h5,h6⟩:=hd.nκ κ hκ h3
          exact ⟨k,up k h5,h6⟩
        · have:=hpin.born κ h3
          exact ⟨i,kdc _ _,this⟩
       df:=by
        rw [knA (hnd so (List.mem_of_getElem? hso))] at hdr
        cases hdr
        exact hdf.trans hd.df }
  · have hfd:fs.getD i default=Foot.pan (vAt v0 ent (fun _=>true) i).env so:=by rw [List.getD_eq_getElem?_getD,hf];rfl
    have hev':=hturn.eval hg hev (by rw [hfd];rfl) (by rw [hfd];rfl) (fun p' hp' κ hκ=>by cases hp') (fun dst p' hp'=>by rw [he] at hp';cases hp')
    cases pn with
    | none =>
     obtain ⟨_,_,hok⟩:=hpn i hisl
     rw [hok] at he
     cases he
    | some q =>
     obtain ⟨j,d1,s1⟩:=q
     obtain ⟨hj,⟨hw1,s2,H,hpj,hs1,hs2,hs3,hs4,hs5⟩,huq⟩:=hpn
     have:=huq i d hw hisl he
     subst this
     rw [he] at hpj
     cases hpj
     obtain ⟨hpo,hkp⟩:=hF
     refine kuB hΓ ho hc (hd.step.since hs) hd.rep hnb hnk hev' _ Q (fun p' g' a' ds hp'=>by cases hp') (fun d' hw' g' u hp' hpp hdd=>?_)
     cases hp'
     refine hQp _ s1 g' a u hkp (hd.step.trans hpp.step) (hd.keeps.trans hpp.keeps) ?_ (by rw [hs1];exact hs3.1) (by rw [hs1];show DfR g' s2.dfs a.defers;rw [hd.df,hs3.2];exact hdf0.mono (hd.keeps.trans hpp.keeps)) hdd
     rw [hs1]
     refine kuI hd.rep hpp hs4 (fun b hb=>?_)
     rw [hs5 b]
     exact hturn.old hg (fun m hm=>kuH ha i m (by rw [List.length_map];exact hisl) hm) hpo (by rw [<- hs2];exact hb)
  · have:=hahead j hbit
    obtain ⟨_,_,hok⟩:=hd.ok j this
    rw [hok] at hpj
    cases hpj
theorem kAM {α:Type} {r:α} {w0:World} (hΓ:keY P w0 Γ) {ops:Array Oper} (Q:Exit->Act->World->Prop) {K:St->Option α} {Kp:D->St->Option α} {g0:G} (hs:Since w0 g0) {np:Nat}
 (hQn:∀ s' g' a',K s'=some r->Step g0 g'->Keeps g0 g'->Rep N g' s'.view a'->Fresh g' s'.nb s'.nk->s'.np=np->DfR g' s'.dfs a'.defers->Q .normal a' g'.w)
 (hQp:∀ d s' g' a' u,Kp d s'=some r->Step g0 g'->Keeps g0 g'->Rep N g' s'.view a'->s'.np=np->DfR g' s'.dfs a'.defers->RepD g'.w g'.φ d u->Q (.panic [{ v:=u,recovered:=false }]) a' g'.w) :
 ∀ (sl:List SOper) (s:St) (a:Act),ops.toList.mapM (kdV P N ops)=some sl->(∀ o,o∈sl->o.op.isDf=false)->kcS (sl.map (·.after)) 0=true->opsD Γ shp (kbV (sl.map (·.after))) sl 0 s [] none K Kp=some r ->
  Rep N g0 s.view a->Fresh g0 s.nb s.nk->s.np=np->DfR g0 s.dfs a.defers->wpAny P .any ops Q ops.size (Array.replicate ops.size false) a { g0.w with drawn:=g0.w.drawn+1 }:=by
 intro sl s a hm hnd ha h hrep hfr hnp hdf
 obtain ⟨ent,fs,pn,s',hg,hfl,hfo,hpn,e1,e2,⟨e3,e4⟩,hv,hF⟩:=ken (nb:=s.nb) (nk:=s.nk) (v0:=s.view) (np:=np) (sl:=sl) (df0:=s.dfs) hnd sl 0 s [] none (fun _=>.un) h (fun k=>by rw [Nat.zero_add]) rfl rfl ⟨hnp,rfl⟩ rfl rfl
  (fun k hk=>absurd hk (by omega)) (fun k hk=>absurd hk (by omega))
 rw [Nat.zero_add] at hg hfl hpn hv hF
 have hlen:sl.length=ops.size:=by rw [(klV hm).1,Array.length_toList]
 have hz:∀ k,(Array.replicate ops.size false).getD k false=false:=fun k=>by
  rw [Array.getD_eq_getD_getElem?,Array.getElem?_replicate]
  split<;>rfl
 refine kuK (g0:=g0) (df:=a.defers) hΓ hs hQn hQp hm hdf hnd ha hg hfl hfo hpn e3 e4 hv hF ops.size (Array.replicate ops.size false) (fun _=>false) (List.range sl.length) g0.draw a (by simp) hz (by rw [List.length_range,hlen];exact Nat.le_refl _) (fun k hk _=>List.mem_range.2 hk) ?_
 have hv0:vAt s.view ent (fun _=>false) sl.length=s.view:=by
  have hn:∀ {β:Type} (w:Nat->Option β) (n:Nat) (x:β),fold w (fun _=>false) n x=x:=fun w n x=>by
   induction n with
   | zero=>rfl
   | succ n ih=>exact ih
  unfold vAt
  simp only [hn]
 exact {
  lt:=fun k hk=>by cases hk
  ok:=fun k hk=>by cases hk
  closed:=fun k m hk=>by cases hk
  step:=kry g0
  keeps:=keo g0
  rep:=by rw [hv0];exact kuJ hrep
  nβ:=fun q hq hb=>absurd (hfr.b q hq) hb
  nκ:=fun κ hκ hu=>absurd hu (hfr.k κ hκ)
  df:=rfl }
end
end Go.Proofs.YtaphnbaiamnfpaaGreatDoor.Ps
