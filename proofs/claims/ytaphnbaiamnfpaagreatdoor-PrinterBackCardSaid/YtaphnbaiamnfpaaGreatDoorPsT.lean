/- Functions: what the small language says of a function, the machine does. -/
import Derived.Test.YtaphnbaiamnfpaaGreatDoorPsS
namespace Go.Proofs.YtaphnbaiamnfpaaGreatDoor.Ps
set_option linter.unusedVariables false
set_option linter.unusedSimpArgs false
open Go Go.RowKit
section
variable (P:Program)
def ke1:List ResultVar->Option (List SRes)
 | []=>some []
 | .tmp t :: r=>match ke1 r with | some l=>some (.tmp t :: l) | none=>none
 | .cell p ty :: r=>match P.underlying ty,P.info? ty,ke1 r with
  | some d,some i,some l=>some (.cell (isAg d) i.size p :: l)
  | _,_,_=>none
def kaf (lv:List (Option (List Nat))) (F:Func):Option SFunc :=
 match F.body with
 | some c=>match kbd P F.ntmps lv c,ke1 P F.results.toList with
  | some (sc, _), some rs => cond (Nat.ble (F.params.size + F.nfree) F.ntmps && !(F.name == "runtime.NumGoroutine")) (some ⟨F.params.size + F.nfree, rs, sc⟩) none
  | _,_=>none
 | none=>none
end
def kjC (tmps:Array Value):ResultVar->Go.Sem Value
 | .tmp t=>pure (tmps.getD t undef)
 | .cell a t=>do loadVar t (<- asAddr (tmps.getD a undef))
def oneV:List Value->Value
 | [v]=>v
 | us=>.tuple us.toArray
theorem kpA (F:Func) (tmps:Array Value) (P:Program) (w:World) (us:List Value) (h:(F.results.toList.mapM (kjC tmps)).run P w=.ok us w):(results F tmps).run P w=.ok (oneV us) w:=by
 have e:(F.results.mapM (kjC tmps)).run P w=.ok us.toArray w:=by
  rw [Array.mapM_eq_mapM_toList]
  simp [h]
 unfold results
 rw [Sem.run_bind]
 show ((F.results.mapM (kjC tmps)).run P w).andThen _=_
 rw [e,Result.andThen_ok]
 rcases us with _ | ⟨v,_ | ⟨v2,us⟩⟩
 · rfl
 · rfl
 · have hne:¬ ((v :: v2 :: us).toArray.size=1):=by simp
   rw [dif_neg hne]
   rfl
section
variable {P:Program} {N:Nat}
theorem kkP {w:World} {t:TypeId} {i:TypeInfo} {d:TypeDesc} {b:Nat} {vs:List Value} (hi:P.info? t=some i) (hd:P.underlying t=some d) (hl:vs.length=i.size)
 (hc:∀ j v,vs[j]? = some v->w.cell? ⟨b,0+j,none⟩=some v) (hag:isAg d=true):(loadVar t ⟨b,0,none⟩).run P w=.ok (.agg vs.toArray) w:=by
 have:=kf3 (o':=0) hi hd hl hc hag
 simpa [Instr.loadAt,Instr.sureAddr] using this
theorem kkQ {w:World} {t:TypeId} {d:TypeDesc} {b o':Nat} {v:Value} (hd:P.underlying t=some d) (hc:w.cell? ⟨b,o',none⟩=some v) (hag:isAg d=false):(loadVar t ⟨b,o',none⟩).run P w=.ok v w:=by
 have:=keW hd hc hag
 simpa [Instr.loadAt,Instr.sureAddr] using this
theorem knE {g:G} {s:St} {a:Act} (h:Rep N g s.view a) {α:Type} {r:α}:∀ (rvs:List ResultVar) (rs:List SRes),ke1 P rvs=some rs->∀ (K:List V->Option α),resK s rs K=some r ->
 ∃ vs us,K vs=some r∧ka7 g vs us∧(rvs.mapM (kjC a.tmps)).run P g.w=.ok us g.w
 | [],rs,hc,K,hk=>by
  cases hc
  exact ⟨[],[],hk,.nil g,rfl⟩
 | .tmp t :: rvs,rs,hc,K,hk=>by
  unfold ke1 at hc
  split at hc
  · rename_i l hl
    cases hc
    unfold resK at hk
    obtain ⟨vs,us,h1,h2,h3⟩:=knE h rvs l hl _ hk
    refine ⟨_,_,h1,.cons (h.env t) h2,?_⟩
    simp [List.mapM_cons,kjC,h3]
  · cases hc
 | .cell p ty :: rvs,rs,hc,K,hk=>by
  unfold ke1 at hc
  split at hc
  · rename_i d i l hd hi hl
    cases hc
    have hp:=h.env p
    cases hag:isAg d with
    | true =>
     rw [hag] at hk
     unfold resK at hk
     rcases kcy hk with ⟨b,off,e,hk⟩ | ⟨sz,row,off,e,hk⟩
     · obtain ⟨x,hx,hk⟩:=kbD hk
       obtain ⟨hc,hk2⟩:=kac hk
       clear hk
       simp only [Bool.and_eq_true] at hc
       have h0:=Nat.eq_of_beq_eq_true hc.1
       have hn:=Nat.eq_of_beq_eq_true hc.2
       subst h0
       obtain ⟨vs,us,h1,h2,h3⟩:=knE h rvs l hl _ hk2
       have e':s.view.env p=.one (.ptr b 0):=e
       rw [e'] at hp
       obtain ⟨B,hB,hpv⟩:=hp.ptr_eq
       obtain ⟨B',hr⟩:=h.heap b x hx
       have:B'=B:=by have:=hr.at_;rw [hB] at this;cases this;rfl
       subst this
       obtain ⟨cs,T,hc,hxr⟩:=hr.cells
       have hlen:cs.toList.length=i.size:=by rw [hxr.1,hn]
       have hload:=kkP (P:=P) (w:=g.w) (b:=B') hi hd hlen (fun j v hv=>by
        have hlt:j < cs.size:=by have:=(List.getElem?_eq_some_iff.1 hv).1;simpa using this
        rw [Nat.zero_add,kft hc hlt,List.getD_eq_getElem?_getD,hv]
        rfl) hag
       refine ⟨_,.agg cs.toList.toArray :: us,h1,.cons (.agg _ _ hxr.1 hxr.2) h2,?_⟩
       have hp2:(kjC a.tmps (.cell p ty)).run P g.w=.ok (.agg cs.toList.toArray) g.w:=by
        have e3:kjC a.tmps (.cell p ty)=(do loadVar ty (<- asAddr (a.tmps.getD p undef))):=rfl
        rw [e3,hpv]
        simp only [asAddr,Sem.run_bind,Sem.run_pure,Result.andThen_ok,hload]
       rw [List.mapM_cons,Sem.run_bind,hp2,Result.andThen_ok,Sem.run_bind,h3]
       rfl
     · cases hk
    | false =>
     rw [hag] at hk
     unfold resK at hk
     rcases kcy hk with ⟨b,off,e,hk⟩ | ⟨sz,row,off,e,hk⟩
     · obtain ⟨x,hx,hk⟩:=kbD hk
       obtain ⟨hc,hk⟩:=kac hk
       have hlt:off < x.row.length:=Nat.le_of_ble_eq_true hc
       obtain ⟨vs,us,h1,h2,h3⟩:=knE h rvs l hl _ hk
       have e':s.view.env p=.one (.ptr b off):=e
       rw [e'] at hp
       obtain ⟨B,hB,hpv⟩:=hp.ptr_eq
       obtain ⟨B',hr⟩:=h.heap b x hx
       have:B'=B:=by have:=hr.at_;rw [hB] at this;cases this;rfl
       subst this
       obtain ⟨cs,T,hc,hxr⟩:=hr.cells
       have hsz:cs.size=x.row.length:=by simpa using hxr.1
       have hload:=kkQ (P:=P) (w:=g.w) hd (kft hc (j:=off) (by omega)) hag
       refine ⟨_,cs.toList.getD off undef :: us,h1,.cons (.one _ _ (hxr.2 off hlt)) h2,?_⟩
       have hp2:(kjC a.tmps (.cell p ty)).run P g.w=.ok (cs.toList.getD off undef) g.w:=by
        have e3:kjC a.tmps (.cell p ty)=(do loadVar ty (<- asAddr (a.tmps.getD p undef))):=rfl
        rw [e3,hpv]
        simp only [asAddr,Sem.run_bind,Sem.run_pure,Result.andThen_ok,hload]
       rw [List.mapM_cons,Sem.run_bind,hp2,Result.andThen_ok,Sem.run_bind,h3]
       rfl
     · cases hk
  · cases hc
theorem kdY {α:Type} {s:St}:∀ (n i:Nat) {K:List (List X)->Option α} {r:α},kf2 s i n K=some r->∃ rs,K rs=some r∧rs.length=n∧∀ j,j < n->∃ x,kaI (i+j) s.heap=some x∧rs[j]? = some (khC x.sh x.row)
 | 0,i,K,r,h=>⟨[],h,rfl,fun j hj=>absurd hj (by omega)⟩
 | n+1,i,K,r,h=>by
  unfold kf2 at h
  obtain ⟨x,hx,h⟩:=kbD h
  have h:=kjt h
  obtain ⟨rs,h1,h2,h3⟩:=kdY n (i+1) h
  refine ⟨_ :: rs,h1,by simp [h2],fun j hj=>?_⟩
  cases j with
  | zero=>exact ⟨x,hx,rfl⟩
  | succ j =>
   obtain ⟨y,hy,hy2⟩:=h3 j (by omega)
   refine ⟨y,?_,by simpa using hy2⟩
   rw [<- hy]
   congr 1
   omega
theorem knF:∀ (args:List V) (k t:Nat),look t (begE k args)=if k<=t then args.getD (t - k) .junk else .junk
 | [],k,t=>by simp [begE,look]
 | v :: args,k,t=>by
  simp only [begE,look]
  cases hq:Nat.beq k t
  · have hne:k ≠ t:=fun e=>by subst e;simp at hq
    have:=knF args (k+1) t
    simp only [cond_false]
    rw [this]
    by_cases h:k<=t
    · rw [if_pos (show k+1<=t by omega),if_pos h]
      have:t - k=(t - (k+1))+1:=by omega
      rw [this]
      rfl
    · rw [if_neg h,if_neg (by omega)]
  · have e:=Nat.eq_of_beq_eq_true hq
    subst e
    simp
theorem krB {g:G} {rows:List (List Lf × List X)} (he:Entry g rows) {args:List V} {vs:List Value} (hv:ka7 g args vs) (hN:args.length<=N) (np:Nat) :
 Rep N g ({ env:=begE 0 args,heap:=begB 0 rows,live:=kas rows,nb:=rows.length,nk:=(kas rows).length,np:=np,dfs:=[] }:St).view { tmps:=vs.toArray++Array.replicate (N - vs.toArray.size) undef,defers:=[] } where
 size:=by have:=hv.1;simp;omega
 env:=fun t=>by
  show RepV g (look t (begE 0 args)) _
  rw [knF,if_pos (Nat.zero_le t),Nat.sub_zero]
  have hlen:=hv.1
  by_cases hlt:t < args.length
  · have:=hv.2 t hlt
    have e:(vs.toArray++Array.replicate (N - vs.toArray.size) undef).getD t undef=vs.getD t undef:=by
     rw [Array.getD_eq_getD_getElem?,Array.getElem?_append_left (by simp;omega),List.getD_eq_getElem?_getD]
     simp
    rw [e]
    exact this
  · have e:args.getD t .junk=.junk:=by rw [List.getD_eq_getElem?_getD,List.getElem?_eq_none (by omega)];rfl
    rw [e]
    exact .junk _
 heap:=he.blk
 inj:=he.inj
 lt:=he.lt
 live:=fun κ hκ=>he.live κ ((kaZ _ _).1 hκ)
 own:=he.own
 dist:=he.dist
 used:=he.used
 fresh:=he.fresh
theorem kgO {fb fk:Nat->Option Nat}:∀ (rows:List (List X)) (i:Nat),(kjp fb fk rows).length=rows.length∧(kjp fb fk rows).getD i []=X.renL fb fk (rows.getD i [])
 | [],i=>⟨rfl,by cases i<;>rw [show kjp fb fk []=[] from rfl]<;>rfl⟩
 | row :: rows,i=>by
  refine ⟨by show (kjp fb fk rows).length+1=_;rw [(kgO rows 0).1];rfl,?_⟩
  cases i with
  | zero=>rfl
  | succ i=>exact (kgO rows i).2
theorem kyj {g0 g:G} {rows:List (List Lf × List X)} (he:Entry g0 rows) {s:St} {a:Act} (ht:Tr rows.length g0 g) (hr:Rep N g s.view a) {ks:List Nat} (hks:KeysOk s.live ks) {o:Out} (hm:o.m=ks.length)
 {e:Ending} {rs:List (List X)} (hlen:rs.length=rows.length) (hrows:∀ j,j < rows.length->∃ x,kaI j s.heap=some x∧rs[j]? = some (khC x.sh x.row))
 (hors:o.rows=kjp (fun b=>cond (Nat.blt b rows.length) (some b) none) (fun κ=>idx κ ks 0) rs)
 (hok:o.ok=true->∃ v,e=.returned v∧RepV (g.by (kbs 0 rows.length) ks) o.val v) (hpan:o.ok=false->∃ u,e=.panicked [{ v:=u,recovered:=false }]∧RepD g.w g.φ o.pv u) :
 OutOk g0 (g.by (kbs 0 rows.length) ks) rows.length o e where
 step:=ht.step.trans (krd g _ _)
 lens:=by rw [hors,(kgO rs 0).1];exact hlen
 β:=fun i hi=>by
  obtain ⟨y,hy⟩:=kf6 rows 0 i (Nat.zero_le _) (by omega)
  obtain ⟨B0,hB0⟩:=he.blk i y hy
  show ((kbs 0 rows.length)[i]?).bind g.β=_
  rw [kek _ _ _ hi,Nat.zero_add,hB0.at_]
  exact ht.β i B0 hi hB0.at_
 rows:=fun i hi=>by
  obtain ⟨x,hx,hrx⟩:=hrows i hi
  obtain ⟨B,hB⟩:=hr.heap i x hx
  obtain ⟨cs,T,hc,hxr⟩:=hB.cells
  obtain ⟨y,hy⟩:=kf6 rows 0 i (Nat.zero_le _) (by omega)
  obtain ⟨B0,hB0⟩:=he.blk i y hy
  have:=ht.β i B0 hi hB0.at_
  rw [hB.at_] at this
  cases this
  refine ⟨B,cs,T,hB0.at_,hc,?_,hB.low⟩
  have e1:rs.getD i []=khC x.sh x.row:=by rw [List.getD_eq_getElem?_getD,hrx];rfl
  rw [hors,(kgO rs i).2,e1]
  refine RepX.renL (g:=g) (g':=g.by _ ks) _ _ (Ext.refl _ _) (fun b i hi B hB=>?_) (fun _ _ h=>h) (fun κ i hi hu=>?_) _ _ (khD hxr)
  · cases hq:Nat.blt b rows.length
    · rw [hq] at hi;cases hi
    · rw [hq] at hi
      cases hi
      show ((kbs 0 rows.length)[b]?).bind g.β=_
      rw [kek _ _ _ (by rwa [Nat.blt_eq] at hq),Nat.zero_add]
      exact hB
  · have e:=kc2 hi
    refine ⟨(List.getElem?_eq_some_iff.1 e).1,fun t ht=>?_⟩
    have ht':(ks[i]?).bind g.gk=some t:=ht
    rw [e] at ht'
    exact ht'
 fresh:=hr.fresh
 ok:=hok
 pan:=hpan
 ty:=fun i B T hi hb hT=>ht.ty i B T hi hb hT
 alive:=fun κ hκ=>by
  rw [hm] at hκ
  obtain ⟨e1,s1,u1,hu⟩:=hr.live ks[κ] (hks.live _ (List.getElem_mem hκ))
  refine ⟨(e1,s1,u1),?_⟩
  show (ks[κ]?).bind g.gk=_
  rw [List.getElem?_eq_getElem hκ]
  exact hu
 own:=fun κ e s' u hu=>by
  have hu':(ks[κ]?).bind g.gk=some (e,s',u):=hu
  rw [Option.bind_eq_some_iff] at hu'
  obtain ⟨q,_,h2⟩:=hu'
  have ho:=hr.own q e s' u h2
  refine ⟨ho.row,fun b hb i hi=>?_⟩
  have hi':((kbs 0 rows.length)[i]?).bind g.β=some b:=hi
  rw [Option.bind_eq_some_iff] at hi'
  obtain ⟨q',_,h3⟩:=hi'
  exact ho.no b hb q' h3
 new:=fun κ e s' u b hu hb=>by
  have hu':(ks[κ]?).bind g.gk=some (e,s',u):=hu
  rw [Option.bind_eq_some_iff] at hu'
  obtain ⟨q,_,h2⟩:=hu'
  rcases ht.step.wri b (.inr ⟨q,e,s',u,h2,hb⟩) with hm0 | hm0
  · rcases hm0 with ⟨i,hi⟩ | ⟨κ',e',s'',u',hu',hb'⟩
    · exfalso
      have hin:i < rows.length:=by
       rcases Nat.lt_or_ge i rows.length with h | h
       · exact h
       · rw [he.out i h] at hi;cases hi
      exact (hr.own q e s' u h2).no b hb i (ht.β i b hin hi)
    · exact .inr ⟨κ',e',s'',u',hu',hb'⟩
  · exact .inl hm0
 dist:=fun κ κ' e s' u e' s'' u' b hu hu' hb hb'=>by
  have h1:(ks[κ]?).bind g.gk=some (e,s',u):=hu
  have h2:(ks[κ']?).bind g.gk=some (e',s'',u'):=hu'
  rw [Option.bind_eq_some_iff] at h1 h2
  obtain ⟨q,h1,h3⟩:=h1
  obtain ⟨q',h2,h4⟩:=h2
  have:=hr.dist q q' _ _ _ _ _ _ b h3 h4 hb hb'
  subst this
  exact kdS hks.nodup h1 h2
theorem X.plain_rep {g:G} {x:X} {v:Value} (h:RepX g x v):RepX g x.plain v:=by
 cases h with
 | own κ e sz rows v h hk hu=>exact .d _ _ h
 | nilL sz=>exact .d _ _ (.nil sz none 0)
 | d x v h=>exact .d _ _ h
 | ptr b B off h=>exact .ptr b B off h
 | rptr sz row b o off vs hb hc h1 h2=>exact .rptr sz row b o off vs hb hc h1 h2
 | fn f caps vs hl h=>exact .fn f caps vs hl h
 | slf0 b B h ht=>exact .slf0 b B h ht
 | slf1 b B h=>exact .slf1 b B h
theorem X.plainL_at:∀ (cs:List X),(X.plainL cs).length=cs.length∧∀ j,j < cs.length->(X.plainL cs).getD j (.d .junk)=(cs.getD j (.d .junk)).plain
 | []=>⟨rfl,fun j hj=>absurd hj (by simp)⟩
 | x :: cs=>by
  obtain ⟨h1,h2⟩:=X.plainL_at cs
  refine ⟨by simp [X.plainL,h1],fun j hj=>?_⟩
  cases j with
  | zero=>rfl
  | succ j=>exact h2 j (by simpa using hj)
mutual
theorem V.plain_rep {g:G}:∀ (x:V) {v:Value},RepV g x v->RepV g x.plain v
 | .one x,v,h=>by
  cases h with
  | one _ _ h=>rw [V.plain];exact .one _ _ (X.plain_rep h)
 | .agg cs,v,h=>by
  cases h with
  | agg _ vs hl h =>
   rw [V.plain]
   obtain ⟨h1,h2⟩:=X.plainL_at cs
   exact .agg _ vs (by omega) (fun j hj=>by rw [h2 j (by omega)];exact X.plain_rep (h j (by omega)))
 | .tup xs,v,h=>by
  cases h with
  | tup _ vs hl h =>
   rw [V.plain]
   obtain ⟨h1,h2⟩:=V.plainL_rep (g:=g) xs vs hl h
   exact .tup _ vs (by omega) h2
 | .junk,v,h=>by rw [V.plain];exact .junk _
theorem V.plainL_rep {g:G}:∀ (xs:List V) (vs:List Value),vs.length=xs.length->(∀ j,j < xs.length->RepV g (xs.getD j .junk) (vs.getD j undef)) ->
 (V.plainL xs).length=xs.length∧∀ j,j < (V.plainL xs).length->RepV g ((V.plainL xs).getD j .junk) (vs.getD j undef)
 | [],vs,hl,h=>by rw [V.plainL];exact ⟨rfl,fun j hj=>absurd hj (by simp)⟩
 | x :: xs,[],hl,h=>by simp at hl
 | x :: xs,v :: vs,hl,h=>by
  rw [V.plainL]
  obtain ⟨h1,h2⟩:=V.plainL_rep (g:=g) xs vs (by simpa using hl) (fun j hj=>h (j+1) (by simpa using hj))
  refine ⟨by simp [h1],fun j hj=>?_⟩
  cases j with
  | zero=>exact V.plain_rep x (h 0 (by simp))
  | succ j=>exact h2 j (by simpa using hj)
end
theorem X.plainAt_rep {g:G} {l:Lf} {x:X} {v:Value} (h:RepX g x v):RepX g (x.plainAt l) v:=by
 unfold X.plainAt
 split
 · exact h
 · exact h
 · exact X.plain_rep h
theorem X.plainLs_rep {g:G}:∀ {cs:List X} {ls:List Lf} {vs:List Value},kaR g cs vs->kaR g (X.plainLs ls cs) vs
 | [],ls,vs,h=>by unfold X.plainLs;exact h
 | x :: cs,ls,vs,h=>by
  unfold X.plainLs
  cases vs with
  | nil=>exact absurd h.1 (by simp)
  | cons v vs=>exact .cons (X.plainAt_rep h.head.1) (X.plainLs_rep h.head.2)
mutual
theorem V.plainS_rep {g:G}:∀ (s:Sh) (x:V) {v:Value},RepV g x v->RepV g (V.plainS s x) v
 | .one l,.one x,v,h=>by
  rw [V.plainS]
  cases h with | one _ _ h=>exact .one _ _ (X.plainAt_rep h)
 | .agg ls,.agg cs,v,h=>by
  rw [V.plainS]
  cases h with
  | agg _ vs hl h =>
   obtain ⟨h1,h2⟩:=X.plainLs_rep (ls:=ls) ⟨hl,h⟩
   exact .agg _ vs h1 h2
 | .tup ss,.tup xs,v,h=>by
  rw [V.plainS]
  cases h with
  | tup _ vs hl h =>
   obtain ⟨h1,h2⟩:=V.plainSs_rep (g:=g) ss xs vs ⟨hl,h⟩
   exact .tup _ vs h1 h2
 | .none,x,v,h=>by rw [V.plainS];exact V.plain_rep _ h;all_goals (intros;contradiction)
 | .one l,.agg cs,v,h=>by rw [V.plainS];exact V.plain_rep _ h;all_goals (intros;contradiction)
 | .one l,.tup cs,v,h=>by rw [V.plainS];exact V.plain_rep _ h;all_goals (intros;contradiction)
 | .one l,.junk,v,h=>by rw [V.plainS];exact V.plain_rep _ h;all_goals (intros;contradiction)
 | .agg ls,.one x,v,h=>by rw [V.plainS];exact V.plain_rep _ h;all_goals (intros;contradiction)
 | .agg ls,.tup xs,v,h=>by rw [V.plainS];exact V.plain_rep _ h;all_goals (intros;contradiction)
 | .agg ls,.junk,v,h=>by rw [V.plainS];exact V.plain_rep _ h;all_goals (intros;contradiction)
 | .tup ss,.one x,v,h=>by rw [V.plainS];exact V.plain_rep _ h;all_goals (intros;contradiction)
 | .tup ss,.agg cs,v,h=>by rw [V.plainS];exact V.plain_rep _ h;all_goals (intros;contradiction)
 | .tup ss,.junk,v,h=>by rw [V.plainS];exact V.plain_rep _ h;all_goals (intros;contradiction)
theorem V.plainSs_rep {g:G}:∀ (ss:List Sh) (xs:List V) (vs:List Value),ka7 g xs vs->ka7 g (V.plainSs ss xs) vs
 | s :: ss,x :: xs,vs,h=>by
  rw [V.plainSs]
  cases vs with
  | nil=>exact absurd h.1 (by simp)
  | cons v vs=>exact .cons (V.plainS_rep s x h.head.1) (V.plainSs_rep ss xs vs h.head.2)
 | [],xs,vs,h=>by
  rw [V.plainSs]
  obtain ⟨h1,h2⟩:=V.plainL_rep (g:=g) xs vs h.1 h.2
  exact ⟨by rw [h1];exact h.1,h2⟩
 | s :: ss,[],vs,h=>by
  rw [V.plainSs]
  · exact h
  all_goals (intros;contradiction)
end
theorem kAN {g:G} {vs:List V} {us:List Value} (hvs:ka7 g vs us):RepV g (kpo vs) (oneV us):=by
 rcases vs with _ | ⟨v,_ | ⟨v2,vs⟩⟩
 · have:us=[]:=List.eq_nil_of_length_eq_zero hvs.1
   subst this
   exact .tup [] [] rfl (fun j hj=>absurd hj (by simp))
 · rcases us with _ | ⟨u,_ | ⟨u2,us⟩⟩
   · exact absurd hvs.1 (by simp)
   · exact hvs.head.1
   · exact absurd hvs.1 (by simp)
 · rcases us with _ | ⟨u,_ | ⟨u2,us⟩⟩
   · exact absurd hvs.1 (by simp)
   · exact absurd hvs.1 (by simp)
   · exact .tup _ _ hvs.1 hvs.2
theorem krC {F:Func} {rs:List SRes} (hrs:ke1 P F.results.toList=some rs) {g0 g:G} {rows:List (List Lf × List X)} (he:Entry g0 rows) {s:St} {a:Act} (ht:Tr rows.length g0 g) (hr:Rep N g s.view a) {sh:Sh} {o:Out} (hk:endK sh rs rows.length s=some o) :
 ∃ v,(results F a.tmps).run P g.w=.ok v g.w∧∃ g'',g''.w=g.w∧OutOk g0 g'' rows.length o (.returned v):=by
 unfold endK at hk
 obtain ⟨vs',us,hk,hvs,hrun⟩:=knE hr F.results.toList rs hrs _ hk
 obtain ⟨rws,hk,hl,hrows⟩:=kdY rows.length 0 hk
 obtain ⟨hc,hk⟩:=kac hk
 rw [Bool.and_eq_true] at hc
 have hk0:KeysOk s.live (kdA rws):=⟨kf5 hc.2,fun κ hκ=>kei.1 hc.1 κ hκ⟩
 have hrep:=V.plainS_rep sh _ (kAN hvs)
 generalize V.plainS sh (kpo vs')=v at hk hrep
 have hks:=V.keys_ok v (kdA rws) hk0
 cases hk
 refine ⟨_,kpA F a.tmps P g.w us hrun,g.by (kbs 0 rows.length) (v.keys s.live (kdA rws)),rfl,?_⟩
 refine kyj he ht hr hks rfl hl (fun j hj=>by have:=hrows j hj;rwa [Nat.zero_add] at this) rfl (fun _=>⟨_,rfl,?_⟩) (fun hq=>by cases hq)
 refine RepV.ren (g:=g) (g':=g.by _ _) _ _ (Ext.refl _ _) (fun b i hi=>by cases hi) (fun _ _ h=>h) (fun κ i hi hu=>?_) _ _ hrep
 have e:=kc2 hi
 refine ⟨(List.getElem?_eq_some_iff.1 e).1,fun t ht=>?_⟩
 have ht':((v.keys s.live (kdA rws))[i]?).bind g.gk=some t:=ht
 rw [e] at ht'
 exact ht'
def G.dr (g:G) (k:Nat):G:={ g with w:={ g.w with drawn:=k } }
theorem kfA (g:G) (k:Nat):Keeps g (g.dr k):=⟨⟨fun _ _ _=>rfl,fun _=>Nat.le_refl _⟩,fun _ _ h=>h,fun _ _ _ h=>h,fun _ h=>h,fun _ _ _ _ h=>h⟩
theorem krD (g:G) (k:Nat):Step g (g.dr k):=⟨rfl,rfl,rfl,Nat.le_refl _,(kfA g k).ext,fun _ _ _=>⟨rfl,rfl⟩,fun b h=>.inl h⟩
theorem kDM {g:G} {v:View} {a:Act} (h:Rep N g v a) (k:Nat):Rep N (g.dr k) v a where
 size:=h.size
 env:=fun t=>(h.env t).mono (kfA g k)
 heap:=fun i x hx=>by
  obtain ⟨B,hB⟩:=h.heap i x hx
  exact ⟨B,hB.mono (kfA g k) ⟨rfl,rfl⟩⟩
 inj:=h.inj
 lt:=h.lt
 live:=h.live
 own:=fun κ e s u hu=>by
  have ho:=h.own κ e s u hu
  obtain ⟨n,xs,hr,hφ⟩:=ho.row
  exact ⟨⟨n,xs,kcT hr (fun _ _=>rfl),hφ⟩,ho.no⟩
 dist:=h.dist
 used:=h.used
 fresh:=h.fresh
theorem kgP {g:G} {w':World} (hf:∀ b,g.w.heap.size<=b->g.φ b=0) (hb:Below g.w.heap.size g.w w'):Keeps g { g with w:=w' } :=
 ⟨⟨fun b o ho=>by
  have:=hb.block b (by
   rcases Nat.lt_or_ge b g.w.heap.size with h | h
   · exact h
   · have:=hf b h
     omega)
  unfold World.cell?
  rw [this],fun _=>Nat.le_refl _⟩,fun _ _ h=>h,fun _ _ _ h=>h,fun _ h=>h,fun i B T hi ⟨c,f,hc⟩=>⟨c,f,(hb.block B (by
  rcases Nat.lt_or_ge B g.w.heap.size with h | h
  · exact h
  · rw [Array.getElem?_eq_none h] at hc;cases hc)).trans hc⟩⟩
theorem kAO {g:G} {w':World} (hf:∀ b,g.w.heap.size<=b->g.φ b=0) (hb:Below g.w.heap.size g.w w'):Step g { g with w:=w' } :=
 ⟨hb.os,hb.tape,hb.output,hb.size,(kgP hf hb).ext,fun b hlt _=>⟨hb.block b hlt,rfl⟩,fun b h=>.inl h⟩
theorem kDN {g:G} {v:View} {a:Act} (h:Rep N g v a) {w':World} (hb:Below g.w.heap.size g.w w'):Rep N { g with w:=w' } v a where
 size:=h.size
 env:=fun t=>(h.env t).mono (kgP h.fresh hb)
 heap:=fun i x hx=>by
  obtain ⟨B,hB⟩:=h.heap i x hx
  exact ⟨B,hB.mono (kgP h.fresh hb) ⟨hb.block B (h.lt i B hB.at_),rfl⟩⟩
 inj:=h.inj
 lt:=fun i B hi=>Nat.lt_of_lt_of_le (h.lt i B hi) hb.size
 live:=h.live
 own:=fun κ e s u hu=>by
  have ho:=h.own κ e s u hu
  obtain ⟨n,xs,hr,hφ⟩:=ho.row
  exact ⟨⟨n,xs,kcT hr (fun b hb'=>hb.block b (ho.lt hb')),hφ⟩,ho.no⟩
 dist:=h.dist
 used:=h.used
 fresh:=fun b hb'=>h.fresh b (Nat.le_trans hb.size hb')
structure RecOk (P:Program) (rc:FuncId->Option TypeId):Prop where
 run:∀ f t,rc f=some t->∀ (v:Value) (w:World),(callFunc f #[v]).run P w=.ok (.enter f #[v]) w
 calm:∀ f t,rc f=some t->∀ (v:Value) (w:World),CallsD P f #[v] .returning w fun e u' w'=>(∃ x,e=.returned x)∧u'=.returning∧∃ k,w'={ w with drawn:=k }
 take:∀ f t,rc f=some t->∀ (w:World) (B:Nat) (cs:Array Value) (T:TypeId) (vs:List Value),w.heap[B]? = some (.cells cs T (0,0))->cs.size=4->vs.length=4->(∀ v∈vs,v.oneCell'=true) ->
  CallsD P f #[.pointer (some ⟨B,0,none⟩)] (.panicking [{ v:=.iface t (.agg vs.toArray),recovered:=false }]) w fun e u' w'=>(∃ x,e=.returned x)∧Go.settle u'=.returning∧Below (w.setRow B vs.toArray).heap.size (w.setRow B vs.toArray) w'
theorem DfR.nil_eq {g:G} {ds:List Deferred} (h:DfR g [] ds):ds=[]:=by cases h;rfl
theorem krE {Γd:SemL} {rc:FuncId->Option TypeId} {w0:World} (hΓd:krg P w0 Γd) (hrc:RecOk P rc) {F:Func} {R:Ending->World->Prop} {np:Nat} {o:Out} {K:St->Option Out} :
 ∀ (dfs:List (FuncId × List V)) (ds:List Deferred) (s:St) (g:G) (a:Act),Since w0 g->DfR g dfs ds->Rep N g s.view a->Fresh g s.nb s.nk->dfrK Γd rc dfs s K=some o ->
  (∀ s' g',K s'=some o->Tr np g g'->Rep N g' s'.view a->∃ v,(results F a.tmps).run P g'.w=.ok v g'.w∧R (.returned v) g'.w)->Leaves P F a.tmps R ds .returning g.w
 | [],ds,s,g,a,hs,hd,hr,hf,hk,hfin=>by
  cases hd
  exact hfin s g hk (Tr.refl _ g) hr
 | (f,vs) :: dfs,_,s,g,a,hs,.cons _ _ dargs caps _ ds hv hd,hr,hf,hk,hfin=>by
  have e:dargs.toArray++caps.toArray=(dargs++caps).toArray:=by simp
  unfold dfrK at hk
  split at hk
  · rename_i t hrcf
    obtain ⟨hvl,hk2⟩:=kac hk
    clear hk
    have hk:=hk2
    have hl:=hv.1
    rw [Nat.eq_of_beq_eq_true hvl] at hl
    obtain ⟨v,hv1⟩:∃ v,dargs++caps=[v]:=by
     cases hq:dargs++caps with
     | nil=>rw [hq] at hl;simp at hl
     | cons v l =>
      cases l with
      | nil=>exact ⟨v,rfl⟩
      | cons _ _=>rw [hq] at hl;simp at hl
    refine leaves_cons (by simp) (f:=f) (args:=#[v]) ?_ ?_
    · show (callFunc f (dargs.toArray++caps.toArray)).run P g.w=_
      rw [e,hv1]
      exact hrc.run f t hrcf v g.w
    · refine (hrc.calm f t hrcf v g.w).mono ?_
      rintro e' u' w' ⟨⟨x,rfl⟩,rfl,k,rfl⟩
      exact krE hΓd hrc dfs ds s (g.dr k) a (Step.since (krD g k) hs) (hd.mono (kfA g k)) (kDM hr k) ⟨hf.b,hf.k⟩ hk
       (fun s' g' h1 h2 h3=>hfin s' g' h1 ((Tr.of (krD g k) (kfA g k)).trans h2) h3)
  · rename_i hrcf
    have hk':(kc9 (α:=Res) Γd (fun _=>.none) f vs s.view.heap s.view.live s.nk (fun p=>some (.inl p)) (fun d hw=>some (.inr (d,hw)))).bind (kDK (fun p=>dfrK Γd rc dfs { s.apply none p with nb:=s.nb+1,nk:=s.nk+16 } K) (fun _ _=>none))=some o:=by
     rw [kgc]
     exact hk
    rw [Option.bind_eq_some_iff] at hk'
    obtain ⟨r,hr1,hr2⟩:=hk'
    obtain ⟨g1,args,rows,out,hw,hout,hs1,hen,hvs1,hcore⟩:=kiE hs hr hv (fun κ h1 _=>hf.k κ h1) hr1
    obtain ⟨hrun,hcalls⟩:=hΓd f args rows out hout g1 (dargs++caps) hs1 hen hvs1
    rw [hw] at hcalls
    have hpin:=khP (nb:=s.nb) hr1
    cases r with
    | inr q=>cases hr2
    | inl p =>
     have hr2:dfrK Γd rc dfs { s.apply none p with nb:=s.nb+1,nk:=s.nk+16 } K=some o:=hr2
     refine leaves_cons (by simp) (f:=f) (args:=(dargs++caps).toArray) ?_ ?_
     · show (callFunc f (dargs.toArray++caps.toArray)).run P g.w=_
       rw [e]
       exact hrun g.w
     · refine (hcalls .returning).mono ?_
       rintro e' u' w' ⟨rfl,g2,rfl,ho⟩
       obtain ⟨g',v,hw',rfl,hp⟩:=hcore e' g2 ho
       rw [<- hw']
       have hap:=hr.apply (dst:=none) hp (fun d hd=>by cases hd)
       exact krE hΓd hrc dfs ds { s.apply none p with nb:=s.nb+1,nk:=s.nk+16 } g' a (Step.since hp.step hs) (hd.mono hp.keeps) (by rw [<- St.apply_view] at hap;exact hap)
        (Fresh.step hr hp (hpin.1 p rfl) hf (by omega) (by omega)) hr2
        (fun s' g'' h1 h2 h3=>hfin s' g'' h1 ((Tr.of hp.step hp.keeps).trans h2) h3)
theorem kjD:∀ (row:List D) (j:Nat),j < row.length->(begX row).getD j (.d .junk)=.d (dat row j)
 | [],j,h=>absurd h (by simp)
 | d :: row,j,h=>by
  cases j with
  | zero=>rfl
  | succ j=>exact kjD row j (by simpa using h)
theorem kgQ:∀ (row:List D),(begX row).length=row.length
 | []=>rfl
 | d :: row=>by show (begX row).length+1=_;rw [kgQ row];rfl
theorem kDO {rc:FuncId->Option TypeId} {w0:World} (hrc:RecOk P rc) {F:Func} {R:Ending->World->Prop} {np:Nat} {o:Out} {K:St->Option Out} {s:St} {g:G} {a:Act} (hs:Since w0 g) {ds:List Deferred} (hd:DfR g s.dfs ds) (hr:Rep N g s.view a)
 {d:D} {u:Value} (hu:RepD g.w g.φ d u) (hk:recK rc d s K=some o) (hfin:∀ s' g',K s'=some o->Tr np g g'->Rep N g' s'.view a->∃ v,(results F a.tmps).run P g'.w=.ok v g'.w∧R (.returned v) g'.w) :
 Leaves P F a.tmps R ds (.panicking [{ v:=u,recovered:=false }]) g.w:=by
 unfold recK at hk
 split at hk
 · rename_i f b hdf
   rw [hdf] at hd
   split at hk
   · rename_i t hrcf
     obtain ⟨hc0,hk1⟩:=kac hk
     clear hk
     rw [Bool.and_eq_true] at hc0
     obtain ⟨x,hx,hk0⟩:=kbD hk1
     clear hk1
     obtain ⟨hc,hk⟩:=kac hk0
     clear hk0
     rw [Bool.and_eq_true,Bool.and_eq_true] at hc
     obtain ⟨⟨hc2,hc4⟩,_⟩:=hc
     obtain ⟨row,rfl⟩:∃ row,d=.iface t row:=by
      cases d<;>first | (cases hc0.1;done) | skip
      rename_i t' row
      have:=Nat.eq_of_beq_eq_true hc0.2
      exact ⟨row,by rw [show t'=t from this]⟩
     obtain ⟨xs,c',_,hk2,hlx,hxs⟩:=keX hk
     clear hk
     have hk:=hk2
     have hbl:=kgQ row
     have hxe:xs=begX row:=by
      apply List.ext_getElem
      · have e0:(D.irow (.iface t row))=row:=rfl
        rw [e0] at hlx
        omega
      · intro j h1 h2
        have:=hxs j h1
        rw [Nat.zero_add] at this
        have e0:(D.irow (.iface t row))=row:=rfl
        rw [e0,kjD row j (by omega)] at this
        have e1:xs.getD j (.d .junk)=xs[j]:=by rw [List.getD_eq_getElem?_getD,List.getElem?_eq_getElem h1];rfl
        have e2:(begX row).getD j (.d .junk)=(begX row)[j]:=by rw [List.getD_eq_getElem?_getD,List.getElem?_eq_getElem h2];rfl
        rw [kjD row j (by omega)] at e2
        rw [<- e1,<- e2]
        rcases this with ⟨d,e3,e4⟩ | ⟨κ,e',sz,rws,_,e3,e4⟩ | ⟨e3,e4⟩ | ⟨e3,e4⟩
        · rw [e4,e3]
        · cases e3
        · cases e3
        · cases e3
     subst hxe
     have hl4:row.length=4:=by
      have:=Nat.eq_of_beq_eq_true hc2
      have e0:(D.irow (.iface t row))=row:=rfl
      rw [e0] at this
      exact this
     have hx4:=Nat.eq_of_beq_eq_true hc4
     cases hd with
     | cons _ _ dargs caps _ ds' hv hd' =>
      cases hd'
      obtain ⟨v,hv1⟩:∃ v,dargs++caps=[v]:=by
       have hl:=hv.1
       cases hq:dargs++caps with
       | nil=>rw [hq] at hl;simp at hl
       | cons v l =>
        cases l with
        | nil=>exact ⟨v,rfl⟩
        | cons _ _=>rw [hq] at hl;simp at hl
      rw [hv1] at hv
      obtain ⟨B,hB,rfl⟩:=hv.head.1.ptr_eq
      obtain ⟨B',hRB⟩:=hr.heap b x hx
      have:B'=B:=by have:=hRB.at_;rw [hB] at this;cases this;rfl
      subst this
      obtain ⟨cs,T,hcs,hxr⟩:=hRB.cells
      cases hu with
      | iface _ _ us hul hur =>
       have e:dargs.toArray++caps.toArray=(dargs++caps).toArray:=by simp
       have hlen:cs.size=4:=by
        have:=hxr.1
        rw [Array.length_toList] at this
        omega
       have hul4:us.length=4:=by omega
       refine leaves_cons (by simp) (f:=f) (args:=#[.pointer (some ⟨B',0,none⟩)]) ?_ ?_
       · show (callFunc f (dargs.toArray++caps.toArray)).run P g.w=_
         rw [e,hv1]
         exact hrc.run f _ hrcf _ g.w
       · refine (hrc.take f _ hrcf g.w B' cs T us hcs hlen hul4 (fun v hv=>?_)).mono ?_
         · obtain ⟨j,hj,rfl⟩:=List.getElem_of_mem hv
           have:=(hur j (by omega)).one
           rw [List.getD_eq_getElem?_getD,List.getElem?_eq_getElem hj] at this
           exact this
         · rintro e' u' w' ⟨⟨x',rfl⟩,hset,hbw⟩
           show Leaves P F a.tmps R [] (Go.settle u') _
           rw [hset]
           have hp:=RepP.store hr b B' hB cs T hcs hRB.low x.sh (begX row) us.toArray ⟨by rw [kgQ];simpa using hul,fun j hj=>by
            rw [kgQ] at hj
            rw [kjD row j hj]
            exact .d _ _ (by simpa using hur j hj)⟩ undef
           have hap:=kkI (s':={ s with heap:=(b,⟨x.sh,begX row⟩) :: s.heap,dfs:=[] }) hr hp rfl rfl rfl
           have hap2:=kDN hap hbw
           exact hfin _ _ hk ((Tr.of hp.step hp.keeps).trans (Tr.of (kAO hap.fresh hbw) (kgP hap.fresh hbw))) hap2
   · cases hk
 · cases hk
theorem krF {G0:Bool->SemL} {shp:FuncId->Sh} {rc:FuncId->Option TypeId} {w0:World} (hΓ:keY P w0 (G0 false)) (hΓd:krg P w0 (G0 true)) (hrc:RecOk P rc) (hm:P.follows .mixedOrders=true) {f:FuncId} {F:Func} (hF:P.funcs[f]? = some F) {lv:List (Option (List Nat))} {fn:SFunc} (hc:kaf P lv F=some fn) {n:Nat} {args:List V}
 {rows:List (List Lf × List X)} {o:Out} {sh:Sh} (hargs:args.length=fn.nparams):(runF G0 shp rc false sh fn n args rows=some o->kdT P w0 f args rows o)∧(runF G0 shp rc true sh fn n args rows=some o->krf P w0 f args rows o):=by
 unfold kaf at hc
 split at hc
 · rename_i c hb
   split at hc
   · rename_i sc lv' rs h1 h2
     obtain ⟨h3,hc⟩:=kac hc
     simp only [Bool.and_eq_true] at h3
     cases hc
     have hN:args.length<=F.ntmps:=by rw [hargs];exact Nat.le_of_ble_eq_true h3.1
     have hent:∀ (vs:List Value) (w:World),(callFunc f vs.toArray).run P w=.ok (.enter f vs.toArray) w:=fun vs w=>by
      have hname : F.name ≠ "runtime.NumGoroutine" := by simpa using h3.2
      simp [callFunc,Sem.run_bind,run_program,hF,hname,hb]
     have body:∀ (df:Bool) (g:G) (vs:List Value),runF G0 shp rc df sh ⟨F.params.size+F.nfree,rs,sc⟩ n args rows=some o->Since w0 g->Entry g rows->ka7 g args vs ->
      c.wp P (krA F.ntmps rows.length (finK (G0 true) rc df sh rs rows.length) o g) { tmps:=vs.toArray++Array.replicate (F.ntmps - vs.toArray.size) undef,defers:=[] } g.w:=fun df g vs h hs he hv=>by
      unfold runF at h
      have hrep:=krB (N:=F.ntmps) he hv hN rows.length
      exact kdX (N:=F.ntmps) (np:=rows.length) hΓ hm c lv sc lv' h1 n _ _ g g _ h hs (Tr.refl _ g) hrep ⟨he.out,fun κ hκ hu=>absurd (he.us κ hu) (by have h:(kas rows).length<=κ:=hκ;omega)⟩ rfl .nil
     have hpan:∀ (df:Bool) (g g':G) (s':St) (a':Act) (d:D) (u:Value),Entry g rows->Tr rows.length g g'->Rep F.ntmps g' s'.view a'->RepD g'.w g'.φ d u ->
      kf2 s' 0 rows.length (fun rs=>cond (Nat.beq (kdA rs).length 0) (some (⟨false,.junk,d,kjp (fun b=>cond (Nat.blt b rows.length) (some b) none) (fun κ=>idx κ [] 0) rs,0⟩:Out)) none)=some o ->
      ∃ g'',g''.w=g'.w∧OutOk g g'' rows.length o (.panicked [{ v:=u,recovered:=false }]):=fun df g g' s' a' d u he ht hr hu hk=>by
      obtain ⟨rws,hk,hl,hrows⟩:=kdY rows.length 0 hk
      obtain ⟨_,hk⟩:=kac hk
      cases hk
      exact ⟨g'.by (kbs 0 rows.length) [],rfl,kyj he ht hr (ks:=[]) ⟨List.nodup_nil,fun κ hκ=>by cases hκ⟩ rfl hl (fun j hj=>by have:=hrows j hj;rwa [Nat.zero_add] at this) rfl (fun hq=>by cases hq) (fun _=>⟨u,rfl,hu⟩)⟩
     refine ⟨fun h g vs hs he hv=>⟨hent vs,?_⟩,fun h g vs hs he hv=>⟨hent vs,fun u=>?_⟩⟩
     · refine calls_of_wp_defers hF hb ?_
       refine wp_mono (body false g vs h hs he hv) ?_
       rintro e a' w' ⟨se,s',g',rfl,hk,ht,hr,hn,hd,hends⟩
       have hret:cond s'.dfs.isEmpty (endK sh rs rows.length s') (cond false none (dfrK (G0 true) rc s'.dfs s' fun s=>endK sh rs rows.length s))=some o->Fresh g' s'.nb s'.nk->Leaves P F a'.tmps (fun e w'=>∃ g'',g''.w=w'∧OutOk g g'' rows.length o e) a'.defers .returning g'.w:=fun hk hf=>by
        have hk2:dfrK (G0 true) rc s'.dfs s' (fun s=>endK sh rs rows.length s)=some o:=by
         cases hq:s'.dfs with
         | nil=>rw [hq] at hk;exact hk
         | cons x r=>rw [hq] at hk;exact hk
        refine krE (N:=F.ntmps) (np:=rows.length) hΓd hrc s'.dfs a'.defers s' g' a' (ht.step.since hs) hd hr hf hk2 (fun s2 g2 h4 h5 h6=>?_)
        obtain ⟨v,h7,h8⟩:=krC h2 he (ht.trans h5) h6 h4
        exact ⟨v,h7,h8⟩
       cases se with
       | norm =>
        obtain ⟨rfl,hf⟩:=hends
        exact hret hk hf
       | exit id =>
        have hk:none=some o:=hk
        cases hk
       | ret =>
        obtain ⟨rfl,hf⟩:=hends
        exact hret hk hf
       | pan d =>
        obtain ⟨u,rfl,hu⟩:=hends
        show Leaves P F a'.tmps _ a'.defers (.panicking _) g'.w
        have hk:cond s'.dfs.isEmpty _ (cond false none (recK rc d s' fun s=>endK sh rs rows.length s))=some o:=hk
        cases hq:s'.dfs with
        | nil =>
         rw [hq] at hk hd
         rw [hd.nil_eq]
         exact hpan false g g' s' a' d u he ht hr hu hk
        | cons x r =>
         rw [hq] at hk
         refine kDO (N:=F.ntmps) (np:=rows.length) (s:=s') hrc (ht.step.since hs) hd hr hu hk (fun s2 g2 h4 h5 h6=>?_)
         obtain ⟨v,h7,h8⟩:=krC h2 he (ht.trans h5) h6 h4
         exact ⟨v,h7,h8⟩
     · refine callsD_of_wp hF hb ?_
       refine wp_mono (body true g vs h hs he hv) ?_
       rintro e a' w' ⟨se,s',g',rfl,hk,ht,hr,hn,hd,hends⟩
       have hret:cond s'.dfs.isEmpty (endK sh rs rows.length s') (cond true none (dfrK (G0 true) rc s'.dfs s' fun s=>endK sh rs rows.length s))=some o ->
        a'.defers=[]∧∃ v,(results F a'.tmps).run P g'.w=.ok v g'.w∧∃ g'',g''.w=g'.w∧OutOk g g'' rows.length o (.returned v):=fun hk=>by
        cases hq:s'.dfs with
        | cons x r=>rw [hq] at hk;cases hk
        | nil =>
         rw [hq] at hk hd
         have hde:a'.defers=[]:=hd.nil_eq
         exact ⟨hde,krC h2 he ht hr hk⟩
       cases se with
       | norm =>
        obtain ⟨rfl,hf⟩:=hends
        exact hret hk
       | exit id =>
        have hk:none=some o:=hk
        cases hk
       | ret =>
        obtain ⟨rfl,hf⟩:=hends
        exact hret hk
       | pan d =>
        obtain ⟨u,rfl,hu⟩:=hends
        have hk:cond s'.dfs.isEmpty _ (cond true none (recK rc d s' fun s=>endK sh rs rows.length s))=some o:=hk
        cases hq:s'.dfs with
        | cons x r=>rw [hq] at hk;cases hk
        | nil =>
         rw [hq] at hk hd
         have hde:a'.defers=[]:=hd.nil_eq
         exact ⟨hde,hpan true g g' s' a' d u he ht hr hu hk⟩
   · cases hc
 · cases hc
theorem kDP {w0:World} {prog:FuncId->Option SFunc} {lib:SemL->SemL} {shp:FuncId->Sh} {rc:FuncId->Option TypeId} (hrc:RecOk P rc) (hm:P.follows .mixedOrders=true) (hprog:∀ f fn,prog f=some fn->∃ F lv,P.funcs[f]? = some F∧kaf P lv F=some fn)
 (hlib:∀ Γ,keY P w0 Γ->keY P w0 (lib Γ)):∀ k,keY P w0 (AA prog lib shp rc k false)∧krg P w0 (AA prog lib shp rc k true)
 | 0=>⟨(fun f args rows o h=>by cases h),(fun f args rows o h=>by cases h)⟩
 | k+1=>by
  obtain ⟨ih,ihd⟩:=kDP (shp:=shp) hrc hm hprog hlib k
  refine ⟨fun f args rows o h=>?_,fun f args rows o h=>?_⟩
  · unfold AA at h
    cases hp:prog f with
    | none=>rw [hp] at h;exact hlib _ ih f args rows o h
    | some fn =>
     rw [hp] at h
     obtain ⟨h1,h⟩:=kac h
     obtain ⟨F,lv,hF,hc⟩:=hprog f fn hp
     exact (krF ih ihd hrc hm hF hc (Nat.eq_of_beq_eq_true h1)).1 h
  · unfold AA at h
    cases hp:prog f with
    | none=>rw [hp] at h;cases h
    | some fn =>
     rw [hp] at h
     obtain ⟨h1,h⟩:=kac h
     obtain ⟨F,lv,hF,hc⟩:=hprog f fn hp
     exact (krF ih ihd hrc hm hF hc (Nat.eq_of_beq_eq_true h1)).2 h
end
end Go.Proofs.YtaphnbaiamnfpaaGreatDoor.Ps
