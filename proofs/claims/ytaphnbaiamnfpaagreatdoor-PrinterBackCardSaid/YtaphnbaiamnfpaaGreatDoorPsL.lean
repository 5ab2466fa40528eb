/- A call, whole. -/
import Derived.Test.YtaphnbaiamnfpaaGreatDoorPsK
namespace Go.Proofs.YtaphnbaiamnfpaaGreatDoor.Ps
set_option linter.unusedVariables false
set_option linter.unusedSimpArgs false
open Go Go.RowKit
section
variable {α:Type}
theorem X.isSlf_eq {x:X} (h:x.isSlf=true):x=.slf x.sb:=by
 cases x<;>first | rfl | cases h
theorem X.isD_eq {x:X} (h:x.isD=true):x=.d x.dd:=by cases x<;>first | rfl | cases h
theorem X.isNil_eq {sz:Nat} {x:X} (h:x.isNil sz=true):x=.nilL sz:=by
 cases x<;>first | (cases h;done) | (rw [Nat.eq_of_beq_eq_true h])
theorem X.isOwn_eq {e sz:Nat} {x:X} (h:x.isOwn e sz=true):x=.own x.key e sz x.orows:=by
 cases x<;>first | (cases h;done) | skip
 rename_i κ e' s rows
 simp only [X.isOwn,Bool.and_eq_true] at h
 rw [Nat.eq_of_beq_eq_true h.1,Nat.eq_of_beq_eq_true h.2]
 rfl
theorem X.isJ_eq {x:X} (h:x.isJ=true):x=.d .junk:=by
 cases x<;>first | (cases h;done) | skip
 rename_i d
 cases d<;>first | rfl | cases h
theorem kAG {c c':Bool} {a b:Option α} {r:α} (h:cond c a (cond c' b none)=some r):(c=true∧a=some r)∨(c'=true∧b=some r):=by
 cases c
 · exact .inr (kac h)
 · exact .inl ⟨rfl,h⟩
def X.hand (l:Lf) (x:X):X :=
 match l with
 | .own _ _=>x
 | .slf=>x
 | _=>.d x.toD
def khC:List Lf->List X->List X
 | _,[]=>[]
 | ls,x :: r=>x.hand (ls.headD .any) :: khC ls.tail r
theorem kAH {l:Lf} {x:X} {K:X->Option α} {r:α} (h:gH l x K=some r):K (x.hand l)=some r:=by
 unfold gH at h
 split at h
 · rcases kAG h with ⟨h1,h⟩ | ⟨h1,h⟩
   · rw [<- X.isOwn_eq h1] at h
     exact h
   · rw [X.isJ_eq h1]
     exact h
 · obtain ⟨h1,h⟩:=kac h
   rw [<- X.isSlf_eq h1] at h
   exact h
 · rename_i h1 h2
   have h:=kq4 h
   have e:x.hand l=.d x.toD:=by
    unfold X.hand
    split
    · exact absurd rfl (h1 _ _)
    · exact absurd rfl h2
    · rfl
   rw [e]
   exact h
theorem kjt:∀ {row:List X} {ls:List Lf} {K:List X->Option α} {r:α},gHs ls row K=some r->K (khC ls row)=some r
 | [],ls,K,r,h=>by
  unfold gHs at h
  exact h
 | x :: row,ls,K,r,h=>by
  unfold gHs at h
  have h:=kAH h
  have h:=kjt h
  exact h
theorem kuw {g:G} {l:Lf} {x:X} {v:Value} (h:RepX g x v):RepX g (x.hand l) v:=by
 unfold X.hand
 split
 · exact h
 · exact h
 · exact .d _ _ h.toD
theorem khD {g:G}:∀ {row:List X} {ls:List Lf} {vs:List Value},kaR g row vs->kaR g (khC ls row) vs
 | [],ls,vs,h=>by unfold khC;exact h
 | x :: row,ls,vs,h=>by
  unfold khC
  cases vs with
  | nil=>exact absurd h.1 (by simp)
  | cons v vs=>exact .cons (kuw h.head.1) (khD h.head.2)
theorem kf4 {H:Nat->Option Blk}:∀ {ids:List Nat} {K:List Blk->List (List Lf × List X)->Option α} {r:α},kfZ H ids K=some r ->
 ∃ blks rows,K blks rows=some r∧blks.length=ids.length∧rows.length=ids.length∧∀ (i b:Nat),ids[i]? = some b->∃ x,H b=some x∧blks[i]? = some x∧rows[i]? = some (x.sh,khC x.sh x.row)
 | [],K,r,h=>⟨[],[],h,rfl,rfl,fun i b hi=>by simp at hi⟩
 | b :: ids,K,r,h=>by
  unfold kfZ at h
  obtain ⟨x,hx,h⟩:=kbD h
  have h:=kjt h
  obtain ⟨blks,rows,h1,h2,h3,h4⟩:=kf4 h
  refine ⟨x :: blks,(x.sh,khC x.sh x.row) :: rows,h1,by simp [h2],by simp [h3],fun i b' hi=>?_⟩
  cases i with
  | zero=>simp at hi;subst hi;exact ⟨x,hx,rfl,rfl⟩
  | succ i=>simpa using h4 i b' (by simpa using hi)
theorem kiC {l:Lf} {x:X} {K:X->Option α} {r:α} (h:kjo l x K=some r):K x=some r:=by
 unfold kjo at h
 split at h
 · obtain ⟨h1,h2⟩:=kac h;rw [X.isD_eq h1];exact h2
 · obtain ⟨h1,h2⟩:=kac h
   simp only [Bool.and_eq_true] at h1
   rw [X.isD_eq h1.1,D.isBool_eq h1.2];exact h2
 · obtain ⟨h1,h2⟩:=kac h
   simp only [Bool.and_eq_true] at h1
   rw [X.isD_eq h1.1,D.isInt_eq h1.2];exact h2
 · obtain ⟨h1,h2⟩:=kac h
   simp only [Bool.and_eq_true] at h1
   rw [X.isD_eq h1.1,D.isStr_eq h1.2];exact h2
 · obtain ⟨h1,h2⟩:=kac h
   simp only [Bool.and_eq_true] at h1
   rw [X.isD_eq h1.1,D.isList_eq h1.2];exact h2
 · obtain ⟨h1,h2⟩:=kac h;rw [X.isNil_eq h1];exact h2
 · obtain ⟨h1,h2⟩:=kac h;rw [X.isOwn_eq h1];exact h2
 · obtain ⟨h1,h2⟩:=kac h;rw [X.isSlf_eq h1];exact h2
theorem kiD {l:Lf} {x:X} {c:Nat} {K:X->Nat->Option α} {r:α} (h:klM l x c K=some r):∃ c',c<=c'∧K x c'=some r:=by
 unfold klM at h
 split at h
 · obtain ⟨h1,h2⟩:=kac h
   simp only [Bool.and_eq_true] at h1
   have e1:=X.isOwn_eq h1.1
   have e2:=Nat.eq_of_beq_eq_true h1.2
   rw [e1,e2]
   exact ⟨_,Nat.le_succ _,h2⟩
 · exact ⟨_,Nat.le_refl _,kiC h⟩
theorem khE:∀ {ls:List Lf} {v:V} {i c:Nat} {K:List X->Nat->Option α} {r:α},khz ls v i c K=some r->∃ xs c',c<=c'∧K xs c'=some r∧xs.length=ls.length∧∀ j,j < ls.length->xs[j]? = some (X.cell v (i+j))
 | [],v,i,c,K,r,h=>⟨[],c,Nat.le_refl _,h,rfl,fun j hj=>absurd hj (by simp)⟩
 | l :: ls,v,i,c,K,r,h=>by
  unfold khz at h
  obtain ⟨c1,hc1,h⟩:=kiD h
  obtain ⟨xs,c2,hc2,h1,h2,h3⟩:=khE h
  refine ⟨_ :: xs,c2,Nat.le_trans hc1 hc2,h1,by simp [h2],fun j hj=>?_⟩
  cases j with
  | zero=>simp
  | succ j =>
   have:=h3 j (by simpa using hj)
   rw [List.getElem?_cons_succ,this]
   congr 2
   omega
mutual
theorem keg:∀ (s:Sh) {v:V} {c:Nat} {K:V->Nat->Option α} {r:α},kf0 s v c K=some r->∃ v' c',c<=c'∧K v' c'=some r∧∀ g u,RepV g v u->RepV g v' u
 | .one l,v,c,K,r,h=>by
  unfold kf0 at h
  obtain ⟨h1,h⟩:=kac h
  obtain ⟨c',hc',h⟩:=kiD h
  refine ⟨_,c',hc',h,?_⟩
  cases v<;>first | exact fun _ _ h=>h | cases h1
 | .agg ls,v,c,K,r,h=>by
  unfold kf0 at h
  obtain ⟨h1,h⟩:=kac h
  obtain ⟨xs,c',hc',h2,h3,h4⟩:=khE h
  refine ⟨_,c',hc',h2,?_⟩
  cases v with
  | agg cs =>
   have hl:cs.length=ls.length:=Nat.eq_of_beq_eq_true h1
   have:xs=cs:=by
    apply List.ext_getElem?
    intro j
    by_cases hj:j < ls.length
    · rw [h4 j hj,Nat.zero_add]
      show some (cs.getD j _)=_
      rw [List.getD_eq_getElem?_getD,List.getElem?_eq_getElem (by omega)]
      rfl
    · rw [List.getElem?_eq_none (by omega),List.getElem?_eq_none (by omega)]
   rw [this]
   exact fun _ _ h=>h
  | _=>cases h1
 | .tup ss,v,c,K,r,h=>by
  unfold kf0 at h
  obtain ⟨h1,h⟩:=kac h
  obtain ⟨xs,c',hc',h2,h3,h4⟩:=khF ss h
  refine ⟨_,c',hc',h2,?_⟩
  cases v with
  | tup vs =>
   have hl:vs.length=ss.length:=Nat.eq_of_beq_eq_true h1
   intro g u hu
   cases hu with
   | tup _ us hul hr =>
    refine .tup xs us (by omega) (fun j hj=>?_)
    obtain ⟨y,hy,hy2⟩:=h4 j (by omega)
    have e:xs.getD j .junk=y:=by rw [List.getD_eq_getElem?_getD,hy];rfl
    rw [e]
    refine hy2 g _ ?_
    have:=hr j (by omega)
    rw [Nat.zero_add]
    exact this
  | _=>cases h1
 | .none,v,c,K,r,h=>by
  unfold kf0 at h
  exact ⟨_,_,Nat.le_refl _,h,fun _ _ _=>.junk _⟩
theorem khF:∀ (ss:List Sh) {v:V} {i c:Nat} {K:List V->Nat->Option α} {r:α},kfp ss v i c K=some r->∃ xs c',c<=c'∧K xs c'=some r∧xs.length=ss.length∧∀ j,j < ss.length->∃ y,xs[j]? = some y∧∀ g u,RepV g (v.comp (i+j)) u->RepV g y u
 | [],v,i,c,K,r,h=>by
  unfold kfp at h
  exact ⟨[],c,Nat.le_refl _,h,rfl,fun j hj=>absurd hj (by simp)⟩
 | s :: ss,v,i,c,K,r,h=>by
  unfold kfp at h
  obtain ⟨v1,c1,hc1,h,hv⟩:=keg s h
  obtain ⟨xs,c2,hc2,h1,h2,h3⟩:=khF ss h
  refine ⟨v1 :: xs,c2,Nat.le_trans hc1 hc2,h1,by simp [h2],fun j hj=>?_⟩
  cases j with
  | zero=>exact ⟨v1,rfl,hv⟩
  | succ j =>
   obtain ⟨y,hy,hy2⟩:=h3 j (by simpa using hj)
   refine ⟨y,by simpa using hy,?_⟩
   have:i+(j+1)=i+1+j:=by omega
   rw [this]
   exact hy2
end
def Turns (sp:Bool) (b i nk c:Nat) (x y:X):Prop :=
 (∃ d,x=.d d∧y=.d d)∨(∃ κ e sz rows,κ < c∧x=.own κ e sz rows∧y=.own (nk+κ) e sz rows)∨(x=.slf i∧y=.slf b)∨(sp=true∧y=.d .junk)
theorem Turns.le {sp:Bool} {b i nk c c':Nat} {x y:X} (h:Turns sp b i nk c x y) (hc:c<=c'):Turns sp b i nk c' x y:=by
 rcases h with h | ⟨κ,e,sz,rows,h1,h2⟩ | h
 · exact .inl h
 · exact .inr (.inl ⟨κ,e,sz,rows,by omega,h2⟩)
 · exact .inr (.inr h)
theorem kpw {sp:Bool} {l:Lf} {x:X} {b i nk c:Nat} {K:X->Nat->Option α} {r:α} (h:kpl sp l x b i nk c K=some r):∃ y c',c<=c'∧K y c'=some r∧Turns sp b i nk c' x y:=by
 unfold kpl at h
 split at h
 · rename_i e sz
   cases sp
   · obtain ⟨h1,h⟩:=kac h
     rw [Bool.and_eq_true] at h1
     have e1:=X.isOwn_eq h1.1
     have e2:=Nat.eq_of_beq_eq_true h1.2
     refine ⟨_,_,Nat.le_succ c,h,.inr (.inl ⟨c,e,sz,x.orows,Nat.lt_succ_self c,?_,rfl⟩)⟩
     rw [e2] at e1
     exact e1
   · exact ⟨_,_,Nat.le_refl c,h,.inr (.inr (.inr ⟨rfl,rfl⟩))⟩
 · obtain ⟨h1,h⟩:=kac h
   rw [Bool.and_eq_true] at h1
   have e1:=X.isSlf_eq h1.1
   have e2:=Nat.eq_of_beq_eq_true h1.2
   rw [e2] at e1
   exact ⟨_,_,Nat.le_refl c,h,.inr (.inr (.inl ⟨e1,rfl⟩))⟩
 · obtain ⟨h1,h⟩:=kac h
   have h:=kiC h
   have e1:=X.isD_eq h1
   exact ⟨_,_,Nat.le_refl c,h,.inl ⟨x.dd,e1,e1⟩⟩
theorem keX {sp:Bool}:∀ {ls:List Lf} {row:List X} {b i nk pos c:Nat} {K:List X->Nat->Option α} {r:α},keF sp ls row b i nk pos c K=some r ->
 ∃ ys c',c<=c'∧K ys c'=some r∧pos+ys.length=row.length∧∀ j,j < ys.length->Turns sp b i nk c' (row.getD (pos+j) (.d .junk)) (ys.getD j (.d .junk))
 | [],row,b,i,nk,pos,c,K,r,h=>by
  unfold keF at h
  obtain ⟨h1,h⟩:=kac h
  have:=Nat.eq_of_beq_eq_true h1
  exact ⟨[],c,Nat.le_refl c,h,by simp [this],fun j hj=>absurd hj (by simp)⟩
 | l :: ls,row,b,i,nk,pos,c,K,r,h=>by
  unfold keF at h
  obtain ⟨y,c1,hc1,h,hy⟩:=kpw h
  obtain ⟨ys,c2,hc2,h,hl,hys⟩:=keX h
  refine ⟨y :: ys,c2,Nat.le_trans hc1 hc2,h,by rw [List.length_cons];omega,fun j hj=>?_⟩
  cases j with
  | zero=>exact hy.le hc2
  | succ j =>
   have:=hys j (by simpa using hj)
   rw [show pos+(j+1)=pos+1+j by omega]
   exact this
theorem keh {sp:Bool}:∀ {ids:List Nat} {blks:List Blk} {rows:List (List X)} {i nk c:Nat} {K:List (Nat × Blk)->Nat->Option α} {r:α},kjq sp ids blks rows i nk c K=some r ->
 ∃ hw c',c<=c'∧K hw c'=some r∧(∀ b x,kaI b hw=some x->∃ j,ids[j]? = some b∧x.row.length=(rows.getD (i+j) []).length ∧
  ∀ t,t < x.row.length->Turns sp b (i+j) nk c' ((rows.getD (i+j) []).getD t (.d .junk)) (x.row.getD t (.d .junk)))∧(∀ b,b∈ids->(kaI b hw).isSome=true)
 | [],blks,rows,i,nk,c,K,r,h=>by
  unfold kjq at h
  exact ⟨[],c,Nat.le_refl c,h,(fun b x hx=>by cases hx),(fun b hb=>by cases hb)⟩
 | b :: ids,[],rows,i,nk,c,K,r,h=>by cases h
 | b :: ids,x :: bs,rows,i,nk,c,K,r,h=>by
  unfold kjq at h
  obtain ⟨ys,c1,hc1,h,hl,hys⟩:=keX h
  obtain ⟨hw,c2,hc2,h1,h2,h3⟩:=keh h
  refine ⟨_,c2,Nat.le_trans hc1 hc2,h1,fun b' x' hx=>?_,fun b' hb=>?_⟩
  · unfold kaI at hx
    cases hq:Nat.beq b b'
    · rw [hq] at hx
      obtain ⟨j,hj,he,ht⟩:=h2 b' x' hx
      refine ⟨j+1,by simpa using hj,?_,?_⟩
      · rw [he]
        congr 2
        omega
      · intro t htl
        have:=ht t htl
        rw [show i+(j+1)=i+1+j by omega]
        exact this
    · rw [hq] at hx
      have e:=Nat.eq_of_beq_eq_true hq
      subst e
      cases hx
      refine ⟨0,rfl,by show ys.length=_;rw [Nat.add_zero];omega,fun t ht=>?_⟩
      have:=(hys t ht).le hc2
      rw [Nat.zero_add] at this
      exact this
  · unfold kaI
    cases hq:Nat.beq b b'
    · have hne:b ≠ b':=fun e=>by subst e;simp at hq
      have:b'∈ids:=by
       rcases List.mem_cons.1 hb with e | e
       · exact absurd e.symm hne
       · exact e
      exact h3 b' this
    · rfl
theorem kei {L:Nat->Bool}:∀ {l:List Nat},allL L l=true ↔ ∀ κ,κ∈l->L κ=true
 | []=>by simp [allL]
 | k :: r=>by
  unfold allL
  cases h:L k
  · simp [h]
  · simp [h,kei (l:=r)]
theorem kf5:∀ {l:List Nat},kkx l=true->l.Nodup
 | [],_=>List.nodup_nil
 | k :: r,h=>by
  unfold kkx at h
  cases h1:hasN k r
  · rw [h1] at h
    refine List.nodup_cons.2 ⟨fun hm=>?_,kf5 h⟩
    rw [(kaZ k r).2 hm] at h1
    cases h1
  · rw [h1] at h
    cases h
end
structure Entry (g:G) (rows:List (List Lf × List X)):Prop where
 blk:∀ i x,kaI i (begB 0 rows)=some x->∃ B,RepB g i x B
 out:∀ i,rows.length<=i->g.β i=Option.none
 inj:∀ i j B,g.β i=some B->g.β j=some B->i=j
 lt:∀ i B,g.β i=some B->B < g.w.heap.size
 fresh:∀ b,g.w.heap.size<=b->g.φ b=0
 live:∀ κ,κ∈kas rows->∃ e s u,g.gk κ=some (e,s,u)
 own:∀ κ e s u,g.gk κ=some (e,s,u)->Owned g e s u
 dist:∀ κ κ' e s u e' s' u' b,g.gk κ=some (e,s,u)->g.gk κ'=some (e',s',u')->u.ownBlock=some b->u'.ownBlock=some b->κ=κ'
 used:∀ κ e s u,g.gk κ=some (e,s,u)->g.us κ
 us:∀ κ,g.us κ->κ < (kas rows).length
theorem Entry.none {g:G} (h:Entry g []) (κ:Nat):g.gk κ=Option.none:=by
 cases hq:g.gk κ with
 | none=>rfl
 | some t =>
  obtain ⟨e,s,u⟩:=t
  exact absurd (h.us κ (h.used κ e s u hq)) (Nat.not_lt_zero κ)
structure OutOk (g g':G) (n:Nat) (o:Out) (e:Ending):Prop where
 step:Step g g'
 lens:o.rows.length=n
 β:∀ i,i < n->g'.β i=g.β i
 rows:∀ i,i < n->∃ B cs T,g.β i=some B∧g'.w.heap[B]? = some (.cells cs T (0,0))∧kaR g' (o.rows.getD i []) cs.toList∧g'.φ B=0
 fresh:∀ b,g'.w.heap.size<=b->g'.φ b=0
 ok:o.ok=true->∃ v,e=.returned v∧RepV g' o.val v
 pan:o.ok=false->∃ u,e=.panicked [{ v:=u,recovered:=false }]∧RepD g'.w g'.φ o.pv u
 alive:∀ κ,κ < o.m->∃ t,g'.gk κ=some t
 ty:∀ i B T,i < n->g.β i=some B->TyAt g.w B T->TyAt g'.w B T
 own:∀ κ e s u,g'.gk κ=some (e,s,u)->Owned g' e s u
 new:∀ κ e s u b,g'.gk κ=some (e,s,u)->u.ownBlock=some b->g.w.heap.size<=b∨∃ κ0 e0 s0 u0,g.gk κ0=some (e0,s0,u0)∧u0.ownBlock=some b
 dist:∀ κ κ' e s u e' s' u' b,g'.gk κ=some (e,s,u)->g'.gk κ'=some (e',s',u')->u.ownBlock=some b->u'.ownBlock=some b->κ=κ'
structure Since (w0:World) (g:G):Prop where
 below:Below w0.heap.size w0 g.w
 out:∀ b,Mut g b->w0.heap.size<=b
theorem Step.since {w0:World} {g g':G} (h:Step g g') (s:Since w0 g):Since w0 g' where
 below:=s.below.trans ⟨h.os,h.tape,h.output,h.size,fun k hk=>(h.keep k (Nat.lt_of_lt_of_le hk s.below.size) (fun hm=>absurd (s.out k hm) (by omega))).1⟩
 out:=fun b hb=>by
  rcases h.wri b hb with h1 | h1
  · exact s.out b h1
  · exact Nat.le_trans s.below.size h1
def kdT (P:Program) (w0:World) (f:FuncId) (args:List V) (rows:List (List Lf × List X)) (o:Out):Prop :=
 ∀ (g:G) (vs:List Value),Since w0 g->Entry g rows->ka7 g args vs->(∀ w,(callFunc f vs.toArray).run P w=.ok (.enter f vs.toArray) w) ∧
  Calls P f vs.toArray g.w fun e w'=>∃ g',g'.w=w'∧OutOk g g' rows.length o e
def keY (P:Program) (w0:World) (Γ:SemL):Prop:=∀ f args rows o,Γ f args rows=some o->kdT P w0 f args rows o
def krf (P:Program) (w0:World) (f:FuncId) (args:List V) (rows:List (List Lf × List X)) (o:Out):Prop :=
 ∀ (g:G) (vs:List Value),Since w0 g->Entry g rows->ka7 g args vs->(∀ w,(callFunc f vs.toArray).run P w=.ok (.enter f vs.toArray) w) ∧
  ∀ u,CallsD P f vs.toArray u g.w fun e u' w'=>u'=u∧∃ g',g'.w=w'∧OutOk g g' rows.length o e
def krg (P:Program) (w0:World) (Γ:SemL):Prop:=∀ f args rows o,Γ f args rows=some o->krf P w0 f args rows o
end Go.Proofs.YtaphnbaiamnfpaaGreatDoor.Ps
