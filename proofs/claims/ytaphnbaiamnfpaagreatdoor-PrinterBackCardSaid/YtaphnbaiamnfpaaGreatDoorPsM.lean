/- A call of the small language does what the machine's call does. -/
import Derived.Test.YtaphnbaiamnfpaaGreatDoorPsL
namespace Go.Proofs.YtaphnbaiamnfpaaGreatDoor.Ps
set_option linter.unusedVariables false
set_option linter.unusedSimpArgs false
open Go Go.RowKit
theorem kbP (κ:Nat):∀ (i n:Nat),hasN κ (kbs i n)=true ↔ i<=κ∧κ < i+n
 | i,0=>by simp [kbs,hasN]
 | i,n+1=>by
  simp only [kbs,hasN]
  cases h:Nat.beq i κ
  · have hne:i ≠ κ:=fun e=>by subst e;simp at h
    have:=kbP κ (i+1) n
    simp only [cond_false]
    rw [this]
    omega
  · have:=Nat.eq_of_beq_eq_true h
    simp only [cond_true,true_iff]
    omega
theorem kkF:∀ (rows:List (List Lf × List X)) (k i:Nat) (x:Blk),kaI i (begB k rows)=some x->k<=i∧∃ r,rows[i - k]? = some r∧x=⟨r.1,r.2⟩
 | [],k,i,x,h=>by cases h
 | (sh,row) :: rs,k,i,x,h=>by
  unfold begB kaI at h
  cases hq:Nat.beq k i
  · rw [hq] at h
    obtain ⟨h1,r,h2,h3⟩:=kkF rs (k+1) i x h
    refine ⟨by omega,r,?_,h3⟩
    have:i - k=(i - (k+1))+1:=by omega
    rw [this]
    exact h2
  · rw [hq] at h
    have e:=Nat.eq_of_beq_eq_true hq
    subst e
    cases h
    exact ⟨Nat.le_refl _,(sh,row),by simp,rfl⟩
theorem kf6:∀ (rows:List (List Lf × List X)) (k i:Nat),k<=i->i - k < rows.length->∃ y,kaI i (begB k rows)=some y
 | [],k,i,_,h=>absurd h (by simp)
 | (sh,row) :: rows,k,i,hk,h=>by
  simp only [begB,kaI]
  cases hq:Nat.beq k i
  · have hne:k ≠ i:=fun e=>by subst e;simp at hq
    exact kf6 rows (k+1) i (by omega) (by simp at h;omega)
  · exact ⟨_,rfl⟩
theorem kf7 {b:Nat}:∀ {l:List Nat} (k:Nat),b∈l->∃ i,idx b l k=some i
 | [],k,h=>by cases h
 | x :: r,k,h=>by
  unfold idx
  cases hq:Nat.beq x b
  · have hne:x ≠ b:=fun e=>by subst e;simp at hq
    rcases List.mem_cons.1 h with e | e
    · exact absurd e.symm hne
    · exact kf7 (k+1) e
  · exact ⟨k,rfl⟩
theorem kdn:∀ (row:List X) (acc:List Nat),kbl row acc=kbl row []++acc
 | [],acc=>rfl
 | x :: r,acc=>by
  cases x with
  | own κ e sz rows=>show κ :: kbl r acc=κ :: kbl r []++acc;rw [kdn r acc];rfl
  | _=>exact kdn r acc
theorem khG {fb fk:Nat->Option Nat}:∀ (row:List X),(∀ κ,κ∈kbl row []->∃ i,fk κ=some i) ->
 (kbl (X.renL fb fk row) []).length=(kbl row []).length∧∀ i,i∈kbl (X.renL fb fk row) []->∃ κ,κ∈kbl row []∧fk κ=some i
 | [],h=>by rw [X.renL];exact ⟨rfl,fun i hi=>by cases hi⟩
 | x :: r,h=>by
  rw [X.renL]
  have ih:=fun hh=>khG (fb:=fb) (fk:=fk) r hh
  cases x with
  | own κ e sz rows =>
   obtain ⟨i,hi⟩:=h κ (by show κ∈κ :: _;simp)
   obtain ⟨h1,h2⟩:=ih (fun κ' hκ=>h κ' (by show κ'∈κ :: _;exact List.mem_cons_of_mem _ hκ))
   rw [X.ren,hi]
   refine ⟨by show (_ :: _).length=(_ :: _).length;simp [h1],fun i' hi'=>?_⟩
   have hi'':i'∈i :: kbl (X.renL fb fk r) []:=hi'
   rcases List.mem_cons.1 hi'' with e | e
   · subst e;exact ⟨κ,by show κ∈κ :: _;simp,hi⟩
   · obtain ⟨κ',h3,h4⟩:=h2 i' e
     exact ⟨κ',by show κ'∈κ :: _;exact List.mem_cons_of_mem _ h3,h4⟩
  | ptr b off =>
   rw [X.ren]
   split<;>exact ih h
  | slf b =>
   rw [X.ren]
   split<;>exact ih h
  | d _=>rw [X.ren];exact ih h
  | nilL _=>rw [X.ren];exact ih h
  | rptr _ _ _=>rw [X.ren];exact ih h
  | fn _ _=>rw [X.ren];exact ih h
theorem kdU {fb fk:Nat->Option Nat}:∀ (rows:List (List Lf × List X)),(∀ κ,κ∈kas rows->∃ i,fk κ=some i) ->
 (kas (renR fb fk rows)).length=(kas rows).length∧∀ i,i∈kas (renR fb fk rows)->∃ κ,κ∈kas rows∧fk κ=some i
 | [],h=>⟨rfl,fun i hi=>by cases hi⟩
 | (sh,row) :: r,h=>by
  have e1:kas ((sh,row) :: r)=kbl row []++kas r:=kdn row _
  have e2:kas (renR fb fk ((sh,row) :: r))=kbl (X.renL fb fk row) []++kas (renR fb fk r):=kdn _ _
  rw [e1] at h ⊢
  rw [e2]
  obtain ⟨h1,h2⟩:=khG (fb:=fb) (fk:=fk) row (fun κ hκ=>h κ (List.mem_append_left _ hκ))
  obtain ⟨h3,h4⟩:=kdU (fb:=fb) (fk:=fk) r (fun κ hκ=>h κ (List.mem_append_right _ hκ))
  refine ⟨by rw [List.length_append,List.length_append,h1,h3],fun i hi=>?_⟩
  rcases List.mem_append.1 hi with hi | hi
  · obtain ⟨κ,h5,h6⟩:=h2 i hi
    exact ⟨κ,List.mem_append_left _ h5,h6⟩
  · obtain ⟨κ,h5,h6⟩:=h4 i hi
    exact ⟨κ,List.mem_append_right _ h5,h6⟩
theorem krh {fb fk:Nat->Option Nat}:∀ (rows:List (List Lf × List X)) (i:Nat) (r:List Lf × List X),(renR fb fk rows)[i]? = some r->∃ q,rows[i]? = some q∧r=(q.1,X.renL fb fk q.2)
 | [],i,r,h=>by cases h
 | (sh,row) :: rows,i,r,h=>by
  cases i with
  | zero=>cases h;exact ⟨_,rfl,rfl⟩
  | succ i=>exact krh rows i r h
theorem kju {fb fk:Nat->Option Nat}:∀ (rows:List (List Lf × List X)),(renR fb fk rows).length=rows.length
 | []=>rfl
 | (sh,row) :: rows=>by show (renR fb fk rows).length+1=_;rw [kju rows];rfl
section
variable {P:Program} {o:Oper} {a:Act} {N:Nat} {g:G} {vw:View} {Γ:SemL} {shp:FuncId->Sh}
theorem kkG (h:Rep N g vw a) {ids:List Nat} (hn:ids.Nodup) {blks:List Blk} {rows:List (List Lf × List X)} (hl:rows.length=ids.length)
 (hb:∀ (i b:Nat),ids[i]? = some b->∃ x,vw.heap b=some x∧blks[i]? = some x∧rows[i]? = some (x.sh,khC x.sh x.row)) (hlive:∀ κ,κ∈kas rows->vw.live κ=true) (hnd:(kas rows).Nodup) :
 Entry (g.by ids (kas rows)) (renR (fun b=>idx b ids 0) (fun κ=>idx κ (kas rows) 0) rows) where
 blk:=fun i x hx=>by
  obtain ⟨_,r,hr,rfl⟩:=kkF _ 0 i x hx
  rw [Nat.sub_zero] at hr
  obtain ⟨q,hq,rfl⟩:=krh rows i r hr
  have hi:i < ids.length:=by rw [<- hl];exact (List.getElem?_eq_some_iff.1 hq).1
  obtain ⟨y,hy,_,hr2⟩:=hb i _ (List.getElem?_eq_getElem hi)
  rw [hq] at hr2
  cases hr2
  obtain ⟨B,hB⟩:=h.heap _ y hy
  obtain ⟨cs,T,hc,hx⟩:=hB.cells
  refine ⟨B,?_,⟨cs,T,hc,kre (khD hx)⟩,hB.low⟩
  show (ids[i]?).bind g.β=_
  rw [List.getElem?_eq_getElem hi]
  exact hB.at_
 out:=fun i hi=>by
  show (ids[i]?).bind g.β=_
  rw [kju] at hi
  rw [List.getElem?_eq_none (by omega)]
  rfl
 inj:=fun i j B hi hj=>by
  have hi':(ids[i]?).bind g.β=some B:=hi
  have hj':(ids[j]?).bind g.β=some B:=hj
  rw [Option.bind_eq_some_iff] at hi' hj'
  obtain ⟨b,h1,h2⟩:=hi'
  obtain ⟨b',h3,h4⟩:=hj'
  have:=h.inj b b' B h2 h4
  subst this
  exact kdS hn h1 h3
 lt:=fun i B hi=>by
  have hi':(ids[i]?).bind g.β=some B:=hi
  rw [Option.bind_eq_some_iff] at hi'
  obtain ⟨b,h1,h2⟩:=hi'
  exact h.lt b B h2
 fresh:=h.fresh
 live:=fun κ hκ=>by
  obtain ⟨_,h2⟩:=kdU (fb:=fun b=>idx b ids 0) (fk:=fun κ=>idx κ (kas rows) 0) rows (fun κ hκ=>kf7 0 hκ)
  obtain ⟨κ0,h3,h4⟩:=h2 κ hκ
  obtain ⟨e,s,u,hu⟩:=h.live κ0 (hlive κ0 h3)
  refine ⟨e,s,u,?_⟩
  show ((kas rows)[κ]?).bind g.gk=_
  rw [kc2 h4]
  exact hu
 own:=fun κ e s u hu=>by
  have hu':((kas rows)[κ]?).bind g.gk=some (e,s,u):=hu
  rw [Option.bind_eq_some_iff] at hu'
  obtain ⟨q,_,h2⟩:=hu'
  have ho:=h.own q e s u h2
  refine ⟨ho.row,fun b hb i hi=>?_⟩
  have hi':(ids[i]?).bind g.β=some b:=hi
  rw [Option.bind_eq_some_iff] at hi'
  obtain ⟨q',_,h3⟩:=hi'
  exact ho.no b hb q' h3
 dist:=fun κ κ' e s u e' s' u' b hu hu' hb hb'=>by
  have h1:((kas rows)[κ]?).bind g.gk=some (e,s,u):=hu
  have h2:((kas rows)[κ']?).bind g.gk=some (e',s',u'):=hu'
  rw [Option.bind_eq_some_iff] at h1 h2
  obtain ⟨q,h1,h3⟩:=h1
  obtain ⟨q',h2,h4⟩:=h2
  have:=h.dist q q' _ _ _ _ _ _ b h3 h4 hb hb'
  subst this
  exact kdS hnd h1 h2
 used:=fun κ e s u hu=>by
  have h1:((kas rows)[κ]?).bind g.gk=some (e,s,u):=hu
  rw [Option.bind_eq_some_iff] at h1
  obtain ⟨q,h1,_⟩:=h1
  exact (List.getElem?_eq_some_iff.1 h1).1
 us:=fun κ hκ=>by
  rw [(kdU rows (fun κ hκ=>kf7 0 hκ)).1]
  exact hκ
theorem klT {ids ks:List Nat} {vs:List V} {us:List Value} (h:ka7 g vs us):ka7 (g.by ids ks) (V.renL (fun b=>idx b ids 0) (fun _=>none) vs) us :=
 RepV.renL (g:=g) (g':=g.by ids ks) (fun b=>idx b ids 0) (fun _=>none) (Ext.refl _ _) (fun b i hi B hB=>by
  show (ids[i]?).bind g.β=_
  rw [kc2 hi]
  exact hB) (fun _ _ h=>h) (fun κ i hi=>by cases hi) vs us h
def G.back (g g1:G) (nk c:Nat) (ks:List Nat):G :=
 ⟨g1.w,g1.φ,g.β,fun κ=>if nk<=κ∧κ < nk+c then g1.gk (κ - nk) else if κ∈ks then none else g.gk κ,fun κ=>g.us κ∨(nk<=κ∧κ < nk+c)⟩
theorem knw (h:Rep N g vw a) {ids ks:List Nat} (hn:ids.Nodup) (hlive:∀ κ,κ∈ks->vw.live κ=true) {g1:G} {n:Nat} {out:Out} {e:Ending} (hok:OutOk (g.by ids ks) g1 n out e) (hnl:n=ids.length)
 {sp:Bool} {nk c:Nat} (hc:c<=16) (hm:c<=out.m) (hnk:∀ κ,nk<=κ->κ < nk+16->¬ g.us κ) {hw:List (Nat × Blk)}
 (hw1:∀ b x,kaI b hw=some x->∃ (j:Nat),ids[j]? = some b∧x.row.length=(out.rows.getD (0+j) []).length∧∀ t,t < x.row.length->Turns sp b (0+j) nk c ((out.rows.getD (0+j) []).getD t (.d .junk)) (x.row.getD t (.d .junk)))
 (hw2:∀ b,b∈ids->(kaI b hw).isSome=true) {x:V} {v:Value} (hv:RepV (g.back g1 nk c ks) x v):RepP g (g.back g1 nk c ks) ⟨x,hw,ks,kbs nk c⟩ v:=by
 have hin:∀ κ,g.us κ->¬ (nk<=κ∧κ < nk+c):=fun κ hu hk=>hnk κ hk.1 (by omega) hu
 have hst:=hok.step
 have hmut:∀ b,Mut (g.by ids ks) b->(∃ i,i∈ids∧g.β i=some b)∨(∃ κ e s u,κ∈ks∧g.gk κ=some (e,s,u)∧u.ownBlock=some b):=fun b hb=>by
  rcases hb with ⟨i,hi⟩ | ⟨κ,e,s,u,hu,hb⟩
  · have hi':(ids[i]?).bind g.β=some b:=hi
    rw [Option.bind_eq_some_iff] at hi'
    obtain ⟨q,h1,h2⟩:=hi'
    exact .inl ⟨q,List.mem_of_getElem? h1,h2⟩
  · have hu':(ks[κ]?).bind g.gk=some (e,s,u):=hu
    rw [Option.bind_eq_some_iff] at hu'
    obtain ⟨q,h1,h2⟩:=hu'
    exact .inr ⟨q,e,s,u,List.mem_of_getElem? h1,h2,hb⟩
 have hkeep:∀ b,b < g.w.heap.size->(∀ i,i∈ids->g.β i ≠ some b)->(∀ κ e s u,κ∈ks->g.gk κ=some (e,s,u)->u.ownBlock ≠ some b)->g1.w.heap[b]? = g.w.heap[b]?∧g1.φ b=g.φ b:=fun b hb hno hno2 =>
  hst.keep b hb (fun hm=>by
   rcases hmut b hm with ⟨i,h1,h2⟩ | ⟨κ,e,s,u,h1,h2,h3⟩
   · exact hno i h1 h2
   · exact hno2 κ e s u h1 h2 h3)
 have hback:∀ κ t,(g.back g1 nk c ks).gk κ=some t->(nk<=κ∧κ < nk+c∧g1.gk (κ - nk)=some t)∨(¬ (nk<=κ∧κ < nk+c)∧κ ∉ ks∧g.gk κ=some t):=fun κ t ht=>by
  have ht':(if nk<=κ∧κ < nk+c then g1.gk (κ - nk) else if κ∈ks then none else g.gk κ)=some t:=ht
  by_cases hq:nk<=κ∧κ < nk+c
  · rw [if_pos hq] at ht'
    exact .inl ⟨hq.1,hq.2,ht'⟩
  · rw [if_neg hq] at ht'
    by_cases hq2:κ∈ks
    · rw [if_pos hq2] at ht'
      cases ht'
    · rw [if_neg hq2] at ht'
      exact .inr ⟨hq,hq2,ht'⟩
 have hk:Keeps g (g.back g1 nk c ks):=⟨hst.ext,fun _ _ e=>e,fun κ hu t ht=>by
  rcases hback κ t ht with ⟨h1,h2,_⟩ | ⟨_,_,h1⟩
  · exact absurd ⟨h1,h2⟩ (hin κ hu)
  · exact h1,fun _ e=>.inl e,fun i B T hi ht=>by
  by_cases hm:i∈ids
  · obtain ⟨j,hj⟩:=List.mem_iff_getElem?.1 hm
    have hjl:j < n:=by rw [hnl];exact (List.getElem?_eq_some_iff.1 hj).1
    refine hok.ty j B T hjl ?_ ht
    show (ids[j]?).bind g.β=_
    rw [hj]
    exact hi
  · obtain ⟨c',f',hc⟩:=ht
    refine ⟨c',f',(hkeep B (h.lt i B hi) (fun j hj hB=>?_) (fun κ e s u _ hu hb=>(h.own κ e s u hu).no B hb i hi)).1.trans hc⟩
    have:=h.inj i j B hi hB
    subst this
    exact hm hj⟩
 have hold:∀ κ e s u b,κ ∉ ks->g.gk κ=some (e,s,u)->u.ownBlock=some b->g1.w.heap[b]? = g.w.heap[b]?∧g1.φ b=g.φ b:=fun κ e s u b hnk hu hb =>
  hkeep b ((h.own κ e s u hu).lt hb) (fun i _ hi=>(h.own κ e s u hu).no b hb i hi) (fun κ' e' s' u' hm hu' hb'=>by
   have:=h.dist κ κ' _ _ _ _ _ _ b hu hu' hb hb'
   subst this
   exact hnk hm)
 have hnew:∀ κ e s u b,g1.gk κ=some (e,s,u)->u.ownBlock=some b->g.w.heap.size<=b∨∃ κ0 e0 s0 u0,κ0∈ks∧g.gk κ0=some (e0,s0,u0)∧u0.ownBlock=some b:=fun κ e s u b hu hb=>by
  rcases hok.new κ e s u b hu hb with h1 | ⟨κ0,e0,s0,u0,h1,h2⟩
  · exact .inl h1
  · have h1':(ks[κ0]?).bind g.gk=some (e0,s0,u0):=h1
    rw [Option.bind_eq_some_iff] at h1'
    obtain ⟨q,h3,h4⟩:=h1'
    exact .inr ⟨q,e0,s0,u0,List.mem_of_getElem? h3,h4,h2⟩
 exact {
  step:=⟨hst.os,hst.tape,hst.output,hst.size,hst.ext,fun b hb hm=>hkeep b hb (fun i _ hi=>hm (.inl ⟨i,hi⟩)) (fun κ e s u _ hu hb=>hm (.inr ⟨κ,e,s,u,hu,hb⟩)),fun b hb=>by
   rcases hb with ⟨i,hi⟩ | ⟨κ,e,s,u,hu,hb⟩
   · exact .inl (.inl ⟨i,hi⟩)
   · rcases hback κ _ hu with ⟨_,_,h1⟩ | ⟨_,_,h1⟩
     · rcases hnew _ _ _ _ b h1 hb with h2 | ⟨κ0,e0,s0,u0,_,h2,h3⟩
       · exact .inr h2
       · exact .inl (.inr ⟨κ0,e0,s0,u0,h2,h3⟩)
     · exact .inl (.inr ⟨κ,e,s,u,h1,hb⟩)⟩
  keeps:=hk
  val:=hv
  fresh:=hok.fresh
  hw:=fun i x hx=>by
   obtain ⟨j,hj,hxl,hxt⟩:=hw1 i x hx
   rw [Nat.zero_add] at hxl hxt
   have hjl:j < n:=by rw [hnl];exact (List.getElem?_eq_some_iff.1 hj).1
   obtain ⟨B,cs,T,hB,hc,hr,hφ⟩:=hok.rows j hjl
   have hβj:=hok.β j hjl
   have hB':(ids[j]?).bind g.β=some B:=hB
   rw [hj] at hB'
   refine ⟨B,hB',⟨cs,T,hc,by rw [hr.1,hxl],fun t ht=>?_⟩,hφ⟩
   have hcell:=hr.2 t (by omega)
   rcases hxt t ht with ⟨d,e1,e2⟩ | ⟨κ,e0,sz,rws,hlt,e1,e2⟩ | ⟨e1,e2⟩ | ⟨_,e2⟩
   · rw [e1] at hcell
     rw [e2]
     exact .d _ _ hcell.toD
   · rw [e1] at hcell
     rw [e2]
     generalize cs.toList.getD t undef=vt at hcell
     cases hcell with
     | own _ _ _ _ _ h1 h2 h3 =>
      refine .own _ _ _ _ _ h1 (fun e' s' u hu=>?_) (.inr ⟨by omega,by omega⟩)
      rcases hback _ _ hu with ⟨_,_,h5⟩ | ⟨h5,_⟩
      · rw [Nat.add_sub_cancel_left] at h5
        exact h2 e' s' u h5
      · exact absurd ⟨by omega,by omega⟩ h5
   · rw [e1] at hcell
     rw [e2]
     generalize cs.toList.getD t undef=vt at hcell
     cases hcell with
     | slf0 _ B2 h1 ht2 =>
      refine .slf0 _ B2 ?_ ht2
      rw [hβj] at h1
      have h1':(ids[j]?).bind g.β=some B2:=h1
      rw [hj] at h1'
      exact h1'
     | slf1 _ B2 h1 =>
      refine .slf1 _ B2 ?_
      rw [hβj] at h1
      have h1':(ids[j]?).bind g.β=some B2:=h1
      rw [hj] at h1'
      exact h1'
   · rw [e2]
     exact .d _ _ (.junk _ hcell.one)
  oth:=fun i B hi hl=>by
   refine hkeep B (h.lt i B hi) (fun j hj hB=>?_) (fun κ e s u _ hu hb=>(h.own κ e s u hu).no B hb i hi)
   have:=h.inj i j B hi hB
   subst this
   have:=hw2 i hj
   rw [hl] at this
   cases this
  new:=fun i B hi=>.inl hi
  use:=fun κ hκ=>by
   rcases hκ with hκ | hκ
   · exact .inl hκ
   · exact .inr ((kbP κ nk c).2 hκ)
  born:=fun κ hκ=>by
   have hr:=(kbP κ nk c).1 hκ
   obtain ⟨⟨e,s,u⟩,ht⟩:=hok.alive (κ - nk) (by omega)
   refine ⟨e,s,u,?_⟩
   show (if nk<=κ∧κ < nk+c then g1.gk (κ - nk) else _)=_
   rw [if_pos hr]
   exact ht
  alive:=fun κ ⟨e,s,u⟩ ht hkill=>by
   show (if nk<=κ∧κ < nk+c then g1.gk (κ - nk) else if κ∈ks then none else g.gk κ)=_
   rw [if_neg (hin κ (h.used κ e s u ht)),if_neg (fun hm=>by rw [(kaZ κ ks).2 hm] at hkill;cases hkill)]
   exact ht
  keys:=fun κ e s u hu=>by
   rcases hback κ _ hu with ⟨h1,h2,h3⟩ | ⟨h1,h2,h3⟩
   · refine .inr ⟨(kbP κ nk c).2 ⟨h1,h2⟩,⟨?_,?_⟩,.inr ⟨h1,h2⟩,fun b hb=>?_,fun κ' e' s' u' b hu' hb hb'=>?_⟩
     · exact (hok.own _ _ _ _ h3).row
     · intro b hb i hi
       rcases hnew _ _ _ _ b h3 hb with h4 | ⟨κ0,e0,s0,u0,_,h5,h6⟩
       · have:=h.lt i b hi
         omega
       · exact (h.own κ0 e0 s0 u0 h5).no b h6 i hi
     · rcases hnew _ _ _ _ b h3 hb with h4 | ⟨κ0,e0,s0,u0,h4,h5,h6⟩
       · exact .inl h4
       · exact .inr ⟨κ0,e0,s0,u0,(kaZ _ _).2 h4,h5,h6⟩
     · rcases hback κ' _ hu' with ⟨k1,k2,k3⟩ | ⟨k1,k2,k3⟩
       · have:=hok.dist _ _ _ _ _ _ _ _ b h3 k3 hb hb'
         omega
       · have hlt:=(h.own κ' _ _ _ k3).lt hb'
         rcases hnew _ _ _ _ b h3 hb with h4 | ⟨κ0,e0,s0,u0,h4,h5,h6⟩
         · omega
         · have:=h.dist κ' κ0 _ _ _ _ _ _ b k3 h5 hb' h6
           subst this
           exact absurd h4 k2
   · refine .inl ⟨?_,?_,h3,fun b hb=>hold κ e s u b h2 h3 hb⟩
     · cases hq:hasN κ (kbs nk c)
       · rfl
       · exact absurd ((kbP κ nk c).1 hq) h1
     · cases hq:hasN κ ks
       · rfl
       · exact absurd ((kaZ κ ks).1 hq) h2 }
theorem kux {g1:G} {nk c:Nat} {ks:List Nat} {x:V} {v:Value} (hv:RepV g1 x v):RepV (g.back g1 nk c ks) (x.ren (fun _=>none) (fun κ=>cond (Nat.blt κ c) (some (nk+κ)) none)) v :=
 RepV.ren (g:=g1) (g':=g.back g1 nk c ks) (fun _=>none) (fun κ=>cond (Nat.blt κ c) (some (nk+κ)) none) (Ext.refl _ _) (fun b i hi=>by cases hi) (fun _ _ h=>h) (fun κ i hi hu=>by
  cases hq:Nat.blt κ c
  · rw [hq] at hi;cases hi
  · rw [hq] at hi
    cases hi
    have hlt:κ < c:=by
     have:=Nat.le_of_ble_eq_true hq
     omega
    refine ⟨.inr ⟨by omega,by omega⟩,fun t ht=>?_⟩
    have ht':(if nk<=nk+κ∧nk+κ < nk+c then g1.gk (nk+κ - nk) else if nk+κ∈ks then none else g.gk (nk+κ))=some t:=ht
    rw [if_pos ⟨by omega,by omega⟩,Nat.add_sub_cancel_left] at ht'
    exact ht') x v hv
def ResOk (g:G) (e:Ending) (g2:G):Res->Prop
 | .inl p=>∃ g' v,g'.w=g2.w∧e=.returned v∧RepP g g' p v
 | .inr (d,hw)=>∃ g' u,g'.w=g2.w∧e=.panicked [{ v:=u,recovered:=false }]∧RepP g g' ⟨.junk,hw,[],[]⟩ undef∧RepD g'.w g'.φ d u
theorem kiE {w0:World} (hs:Since w0 g) (h:Rep N g vw a) {f:FuncId} {vs:List V} {us:List Value} (hvs:ka7 g vs us) {nk:Nat} (hnk:∀ κ,nk<=κ->κ < nk+16->¬ g.us κ) {r:Res}
 (hk:kc9 (α:=Res) Γ shp f vs vw.heap vw.live nk (fun p=>some (.inl p)) (fun d hw=>some (.inr (d,hw)))=some r) :
 ∃ (g1:G) (args:List V) (rows:List (List Lf × List X)) (out:Out),g1.w=g.w∧Γ f args rows=some out∧Since w0 g1∧Entry g1 rows∧ka7 g1 args us ∧
  ∀ e g2,OutOk g1 g2 rows.length out e->ResOk g e g2 r:=by
 unfold kc9 at hk
 have hn:=V.idsL_nodup vs [] (by simp)
 generalize V.idsL vs []=ids at hk hn
 obtain ⟨blks,rows,hk,hl1,hl2,hb⟩:=kf4 hk
 obtain ⟨hl,hk⟩:=kac hk
 rw [Bool.and_eq_true] at hl
 have hlive:∀ κ,κ∈kas rows->vw.live κ=true:=kei.1 hl.1
 have hnd:=kf5 hl.2
 rw [Option.bind_eq_some_iff] at hk
 obtain ⟨out,hout,hk⟩:=hk
 obtain ⟨hw,c0,_,hk,hw1,hw2⟩:=keh hk
 refine ⟨g.by ids (kas rows),_,_,out,rfl,hout,⟨hs.below,fun b hb=>hs.out b (kyf hb)⟩,kkG h hn hl2 hb hlive hnd,klT hvs,fun e g2 ho=>?_⟩
 rw [kju] at ho
 cases hok:out.ok with
 | true =>
  rw [hok] at hk
  simp only [cond_true] at hk
  obtain ⟨x,c,hc0,hk,hx⟩:=keg _ hk
  obtain ⟨hc,hk⟩:=kac hk
  simp only [Bool.and_eq_true] at hc
  have hm:=Nat.le_of_ble_eq_true hc.1
  have hc16:=Nat.le_of_ble_eq_true hc.2
  cases hk
  obtain ⟨v,rfl,hv⟩:=ho.ok hok
  exact ⟨g.back g2 nk c (kas rows),v,rfl,rfl,knw h hn hlive ho hl2 hc16 (by omega) hnk (fun b x hx=>by
   obtain ⟨j,h1,h2,h3⟩:=hw1 b x hx
   exact ⟨j,h1,h2,fun t ht=>(h3 t ht).le hc0⟩) hw2 (kux (hx g2 v hv))⟩
 | false =>
  rw [hok] at hk
  simp only [cond_false] at hk
  obtain ⟨hc,hk2⟩:=kac hk
  clear hk
  simp only [Bool.and_eq_true] at hc
  have hz:=Nat.eq_of_beq_eq_true hc.1
  have hke:kas rows=[]:=List.isEmpty_iff.1 hc.2
  subst hz
  have hr:(Sum.inr (out.pv,hw):Res)=r:=Option.some.inj hk2
  subst hr
  obtain ⟨u,rfl,hu⟩:=ho.pan hok
  have:=knw h hn hlive ho hl2 (c:=0) (by omega) (by omega) hnk hw1 hw2 (x:=.junk) (v:=undef) (.junk _)
  rw [hke] at this
  exact ⟨g.back g2 nk 0 [],u,rfl,rfl,this,hu⟩
theorem knx {w0:World} (hΓ:keY P w0 Γ) (hs:Since w0 g) (h:Rep N g vw a) {f:FuncId} {vs:List V} {us:List Value} (hvs:ka7 g vs us) {nk:Nat} (hnk:∀ κ,nk<=κ->κ < nk+16->¬ g.us κ)
 (hrun:∀ w,(callFunc f us.toArray).run P w=.ok (.enter f us.toArray) w->(execOp a.eval o).run P w=.ok (.enter f us.toArray) w) {r:Res}
 (hk:kc9 (α:=Res) Γ shp f vs vw.heap vw.live nk (fun p=>some (.inl p)) (fun d hw=>some (.inr (d,hw)))=some r):OpOk P o a g r:=by
 obtain ⟨g1,args,rows,out,hw,hout,hs1,hen,hvs1,hcore⟩:=kiE hs h hvs hnk hk
 obtain ⟨he,hcalls⟩:=hΓ f args rows out hout g1 us hs1 hen hvs1
 rw [hw] at hcalls
 have hrun':=hrun g.w (he g.w)
 cases r with
 | inl p =>
  intro K Q hK
  unfold Oper.wp
  rw [hrun',Oper.upon_enter]
  refine hcalls.mono ?_
  rintro e w' ⟨g2,rfl,ho⟩
  obtain ⟨g',v,hw',rfl,hp⟩:=hcore e g2 ho
  rw [<- hw']
  exact hK g' v hp
 | inr q =>
  obtain ⟨d,hw⟩:=q
  intro K Q hK
  unfold Oper.wp
  rw [hrun',Oper.upon_enter]
  refine hcalls.mono ?_
  rintro e w' ⟨g2,rfl,ho⟩
  obtain ⟨g',u,hw',rfl,hp,hu⟩:=hcore e g2 ho
  rw [<- hw']
  exact hK g' u hp hu
theorem kAI {w0:World} (hΓ:keY P w0 Γ) (hs:Since w0 g) (h:Rep N g vw a) {f:FuncId} {xs:Array Operand} {ts:Array TypeId} (ho:o.op=.call { callee:=.value (.func f),args:=xs,argTypes:=ts }) {ys:List SArg} (hxs:args P ts.toList xs.toList=some ys)
 {nk:Nat} (hnk:∀ κ,nk<=κ->κ < nk+16->¬ g.us κ) {r:Res} (hk:kc9 (α:=Res) Γ shp f (evL vw.env ys) vw.heap vw.live nk (fun p=>some (.inl p)) (fun d hw=>some (.inr (d,hw)))=some r):OpOk P o a g r:=by
 refine knx hΓ hs h (kfs h hxs) hnk (fun w hw=>?_) hk
 have e:(xs.toList.map a.eval).toArray=xs.map a.eval:=by rw [<- Array.toList_map,Array.toArray_toList]
 rw [e] at hw ⊢
 have e2:a.eval (.func f)=.func (.func f) #[] #[]:=rfl
 simp [execOp,ho,resolve,Deferred.ofValue,invoke,e2,hw]
theorem kjv:∀ {caps:List X} {us:List Value},kaR g caps us->ka7 g (caps.map .one) us
 | [],us,h=>⟨h.1,fun j hj=>absurd hj (by simp)⟩
 | x :: caps,us,h=>by
  cases us with
  | nil=>exact absurd h.1 (by simp)
  | cons u us=>exact .cons (.one _ _ h.head.1) (kjv h.head.2)
theorem ka7.append {cs ds:List V} {vs us:List Value} (h:ka7 g cs vs) (h':ka7 g ds us):ka7 g (cs++ds) (vs++us):=by
 induction cs generalizing vs with
 | nil =>
  have:vs=[]:=List.eq_nil_of_length_eq_zero h.1
  subst this
  exact h'
 | cons x xs ih =>
  cases vs with
  | nil=>exact absurd h.1 (by simp)
  | cons v vs=>exact .cons h.head.1 (ih h.head.2)
theorem kuy {w0:World} (hΓ:keY P w0 Γ) (hs:Since w0 g) (h:Rep N g vw a) {x:Operand} {xs:Array Operand} {ts:Array TypeId} (ho:o.op=.call { callee:=.value x,args:=xs,argTypes:=ts }) {ys:List SArg} (hxs:args P ts.toList xs.toList=some ys)
 {f:FuncId} {caps:List X} (hx:RepV g (.one (.fn f caps)) (a.eval x))
 {nk:Nat} (hnk:∀ κ,nk<=κ->κ < nk+16->¬ g.us κ) {r:Res} (hk:kc9 (α:=Res) Γ shp f (evL vw.env ys++caps.map .one) vw.heap vw.live nk (fun p=>some (.inl p)) (fun d hw=>some (.inr (d,hw)))=some r):OpOk P o a g r:=by
 generalize he:a.eval x=v at hx
 cases hx with
 | one _ _ hx =>
  cases hx with
  | fn _ _ us hl hr =>
   refine knx hΓ hs h (ka7.append (kfs h hxs) (kjv ⟨hl,hr⟩)) hnk (fun w hw=>?_) hk
   have e:(xs.toList.map a.eval++us).toArray=xs.map a.eval++us.toArray:=by
    rw [<- Array.toList_map];simp
   rw [e] at hw ⊢
   simp [execOp,ho,resolve,Deferred.ofValue,invoke,he,hw]
end
end Go.Proofs.YtaphnbaiamnfpaaGreatDoor.Ps
