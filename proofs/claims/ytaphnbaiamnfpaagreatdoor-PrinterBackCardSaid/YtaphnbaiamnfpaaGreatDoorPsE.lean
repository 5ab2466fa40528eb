/- What each kind of step leaves: nothing done, a new variable, a variable written, a new list, a list appended to. -/
import Derived.Test.YtaphnbaiamnfpaaGreatDoorPsD
namespace Go.Proofs.YtaphnbaiamnfpaaGreatDoor.Ps
set_option linter.unusedVariables false
set_option linter.unusedSimpArgs false
open Go Go.RowKit
theorem RepP.pure {N:Nat} {g:G} {vw:View} {a:Act} (h:Rep N g vw a) {x:V} {v:Value} (hv:RepV g x v):RepP g g ⟨x,[],[],[]⟩ v where
 step:=Step.refl g
 keeps:=Keeps.refl g
 val:=hv
 fresh:=h.fresh
 hw:=fun i x hx=>by cases hx
 oth:=fun i B _ _=>⟨rfl,rfl⟩
 new:=fun i B hi=>.inl hi
 born:=fun κ hκ=>by cases hκ
 use:=fun κ hκ=>.inl hκ
 alive:=fun κ t ht _=>ht
 keys:=fun κ e s u hu=>.inl ⟨rfl,rfl,hu,fun _ _=>⟨rfl,rfl⟩⟩
theorem kdl {P:Program} {o:Oper} {a:Act} {w w':World} {v:Value} {K:Act->World->Prop} {Q:Exit->Act->World->Prop}
 (hrun:(execOp a.eval o).run P w=.ok (.value v) w') (hK:K (a.put o.dst v) w'):o.wp P a w K Q:=by
 unfold Oper.wp
 rw [hrun]
 exact hK
theorem kuq {P:Program} {o:Oper} {a:Act} {w w':World} {K:Act->World->Prop} {Q:Exit->Act->World->Prop}
 (hrun:(execOp a.eval o).run P w=.ok .skip w') (hK:K (a.put o.dst undef) w'):o.wp P a w K Q:=by
 unfold Oper.wp
 rw [hrun]
 exact hK
def G.alloc (g:G) (nb:Nat) (cs:Array Value) (T:TypeId):G :=
 { g with w:=g.w.alloc (.cells cs T),β:=fun i=>if i=nb then some g.w.heap.size else g.β i }
theorem kco (w:World) (o:Obj):(w.alloc o).heap.size=w.heap.size+1:=by
 show (w.heap.push o).size=_
 simp
theorem khA {w:World} {φ φ':Nat->Nat} (o:Obj) (hf:∀ b,w.heap.size<=b->φ b=0) (hφ:∀ b,φ b<=φ' b):Ext w φ (w.alloc o) φ' where
 cell:=fun b o' ho=>by
  have hb:b < w.heap.size:=by
   rcases Nat.lt_or_ge b w.heap.size with h | h
   · exact h
   · rw [hf b h] at ho
     omega
  exact World.cell?_of_block (Go.heap_alloc_old w o hb)
 le:=hφ
theorem RepP.alloc {N:Nat} {g:G} {vw:View} {a:Act} (h:Rep N g vw a) (nb:Nat) (hn:g.β nb=none) (sh:List Lf) (cs:List X) (us:Array Value) (T:TypeId) (hr:kaR g cs us.toList) :
 RepP g (g.alloc nb us T) ⟨.one (.ptr nb 0),[(nb,⟨sh,cs⟩)],[],[]⟩ (.pointer (some ⟨g.w.heap.size,0,none⟩)):=by
 have hβ:∀ i B,g.β i=some B->(g.alloc nb us T).β i=some B:=fun i B hi=>by
  have:i ≠ nb:=fun e=>by subst e;rw [hn] at hi;cases hi
  show (if i=nb then _ else _)=_
  rw [if_neg this]
  exact hi
 have hk:Keeps g (g.alloc nb us T):=⟨khA _ h.fresh (fun _=>Nat.le_refl _),hβ,fun _ _ _ e=>e,fun _ e=>e,fun i B T' hi ⟨c,f,hc⟩=>⟨c,f,(Go.heap_alloc_old _ _ (h.lt i B hi)).trans hc⟩⟩
 have hβn:(g.alloc nb us T).β nb=some g.w.heap.size:=if_pos rfl
 exact {
  step:=⟨rfl,rfl,rfl,by rw [show (g.alloc nb us T).w.heap.size=_ from kco _ _];omega,hk.ext,fun b hb _=>⟨Go.heap_alloc_old _ _ hb,rfl⟩,fun b hb=>by
   rcases hb with ⟨i,hi⟩ | hb
   · by_cases e:i=nb
     · subst e
       rw [hβn] at hi
       cases hi
       exact .inr (Nat.le_refl _)
     · exact .inl (.inl ⟨i,by rw [<- hi];exact (if_neg e).symm⟩)
   · exact .inl (.inr hb)⟩
  keeps:=hk
  val:=.one _ _ (.ptr nb g.w.heap.size 0 hβn)
  fresh:=fun b hb=>h.fresh b (by rw [show (g.alloc nb us T).w.heap.size=_ from kco _ _] at hb;omega)
  hw:=fun i x hx=>by
   simp only [kaI] at hx
   cases hq:Nat.beq nb i
   · rw [hq] at hx;cases hx
   · rw [hq] at hx
     have e:=Nat.eq_of_beq_eq_true hq
     subst e
     cases hx
     exact ⟨_,hβn,⟨us,T,heap_alloc_new _ _,hr.mono hk⟩,h.fresh _ (Nat.le_refl _)⟩
  oth:=fun i B hi _=>⟨Go.heap_alloc_old _ _ (h.lt i B hi),rfl⟩
  new:=fun i B hi=>by
   by_cases e:i=nb
   · subst e
     rw [hβn] at hi
     cases hi
     refine .inr ⟨hn,Nat.le_refl _,by rw [show (g.alloc i us T).w.heap.size=_ from kco _ _];omega,by simp [kaI],fun j hj=>?_⟩
     by_cases e:j=i
     · exact e
     · have:g.β j=some g.w.heap.size:=by rw [<- hj];exact (if_neg e).symm
       have:=h.lt j _ this
       omega
   · exact .inl (by rw [<- hi];exact (if_neg e).symm)
  born:=fun κ hκ=>by cases hκ
  use:=fun κ hκ=>.inl hκ
  alive:=fun κ t ht _=>ht
  keys:=fun κ e s u hu=>.inl ⟨rfl,rfl,hu,fun b hb=>⟨Go.heap_alloc_old _ _ ((h.own κ e s u hu).lt hb),rfl⟩⟩ }
def G.store (g:G) (B:Nat) (cs:Array Value):G:={ g with w:=g.w.setRow B cs }
theorem RepP.store {N:Nat} {g:G} {vw:View} {a:Act} (h:Rep N g vw a) (b B:Nat) (hb:g.β b=some B) (old:Array Value) (T:TypeId) (ho:g.w.heap[B]? = some (.cells old T (0,0))) (hφ:g.φ B=0)
 (sh:List Lf) (cs:List X) (us:Array Value) (hr:kaR g cs us.toList) (v:Value):RepP g (g.store B us) ⟨.junk,[(b,⟨sh,cs⟩)],[],[]⟩ v:=by
 have hne:∀ k,k ≠ B->(g.store B us).w.heap[k]? = g.w.heap[k]?:=fun k hk=>setRow_other _ _ _ _ hk
 have hk:Keeps g (g.store B us):=⟨⟨fun k o hko=>by
  have:k ≠ B:=fun e=>by subst e;rw [hφ] at hko;omega
  exact World.cell?_of_block (hne k this),fun _=>Nat.le_refl _⟩,fun _ _ e=>e,fun _ _ _ e=>e,fun _ e=>e,fun i B' T' hi ⟨c,f,hc⟩=>by
  by_cases e:B'=B
  · subst e
    rw [ho] at hc
    cases hc
    exact ⟨us,_,setRow_heap _ _ old _ _ _ ho⟩
  · exact ⟨c,f,(hne B' e).trans hc⟩⟩
 exact {
  step:=⟨rfl,rfl,rfl,by show _<=(g.w.setRow B us).heap.size;rw [size_setRow];exact Nat.le_refl _,hk.ext,fun k hk hm=>⟨hne k (fun e=>hm (.inl ⟨b,by rw [e];exact hb⟩)),rfl⟩,fun k hk=>.inl hk⟩
  keeps:=hk
  val:=.junk _
  fresh:=fun k hk=>h.fresh k (by rw [show (g.store B us).w.heap.size=_ from size_setRow _ _ _] at hk;exact hk)
  hw:=fun i x hx=>by
   simp only [kaI] at hx
   cases hq:Nat.beq b i
   · rw [hq] at hx;cases hx
   · rw [hq] at hx
     have e:=Nat.eq_of_beq_eq_true hq
     subst e
     cases hx
     exact ⟨B,hb,⟨us,T,setRow_heap _ _ old _ _ _ ho,hr.mono hk⟩,hφ⟩
  oth:=fun i B' hi hl=>by
   have:B' ≠ B:=fun e=>by
    subst e
    have:=h.inj i b B' hi hb
    subst this
    simp [kaI] at hl
   exact ⟨hne B' this,rfl⟩
  new:=fun i B hi=>.inl hi
  born:=fun κ hκ=>by cases hκ
  use:=fun κ hκ=>.inl hκ
  alive:=fun κ t ht _=>ht
  keys:=fun κ e s u hu=>.inl ⟨rfl,rfl,hu,fun k hk=>⟨hne k (fun e=>(h.own κ _ s u hu).no k hk b (by rw [e];exact hb)),rfl⟩⟩ }
theorem RepP.ofBorn {N:Nat} {g:G} {vw:View} {a:Act} (h:Rep N g vw a) (w':World) (φ':Nat->Nat) (nk e sz:Nat) (rows:List (List D)) (kill:List Nat) (v':Value) (row:Option Nat)
 (hnk:¬ g.us nk) (n:Nat) (xs:List Value) (hown:w'.ownsRow 0 e sz v' n xs) (hφ':∀ b,v'.ownBlock=some b->φ' b=n*sz) (hg:g.w.grownBy w' row)
 (hrow:∀ b,row=some b->∃ κ0 e0 s0 u0,kill=[κ0]∧g.gk κ0=some (e0,s0,u0)∧u0.ownBlock=some b)
 (hblk:∀ b,v'.ownBlock=some b->b < w'.heap.size∧(g.w.heap.size<=b∨row=some b))
 (hφo:∀ b,v'.ownBlock ≠ some b->φ' b=g.φ b) (hφle:∀ b,g.φ b<=φ' b)
 (hcell:∀ b o,o < g.φ b->w'.cell? ⟨b,o,none⟩=g.w.cell? ⟨b,o,none⟩)
 (hrep:RepD w' φ' (.list sz rows) v') :
 RepP g { w:=w',φ:=φ',β:=g.β,gk:=fun κ=>if κ=nk then some (e,sz,v') else if hasN κ kill then none else g.gk κ,us:=fun κ=>g.us κ∨κ=nk }
  ⟨.one (.own nk e sz rows),[],kill,[nk]⟩ v':=by
 have hk:Keeps g { w:=w',φ:=φ',β:=g.β,gk:=fun κ=>if κ=nk then some (e,sz,v') else if hasN κ kill then none else g.gk κ,us:=fun κ=>g.us κ∨κ=nk }:=by
  refine ⟨⟨hcell,hφle⟩,fun _ _ e=>e,fun κ hκ t ht=>?_,fun _ e=>.inl e,fun i B T' hi ⟨c,f,hc⟩=>⟨c,f,(hg.block B (h.lt i B hi) (fun e=>by
   obtain ⟨κ0,e0,s0,u0,_,h4,h5⟩:=hrow B e.symm
   exact (h.own κ0 _ _ _ h4).no B h5 i hi)).trans hc⟩⟩
  have hne:κ ≠ nk:=fun e=>by subst e;exact hnk hκ
  simp only [if_neg hne] at ht
  split at ht
  · cases ht
  · exact ht
 have hold:∀ κ t,κ ≠ nk->(if κ=nk then some (e,sz,v') else if hasN κ kill then none else g.gk κ)=some t->hasN κ kill=false∧g.gk κ=some t:=fun κ t hne ht=>by
  rw [if_neg hne] at ht
  split at ht
  · cases ht
  · rename_i hq
    exact ⟨by simpa using hq,ht⟩
 have hnks:∀ t,g.gk nk ≠ some t:=fun ⟨e,s,u⟩ ht=>hnk (h.used nk e s u ht)
 have hnew:∀ κ' e' s' u' b,(if κ'=nk then some (e,sz,v') else if hasN κ' kill then none else g.gk κ')=some (e',s',u')->v'.ownBlock=some b->u'.ownBlock=some b->κ'=nk:=fun κ' e' s' u' b hu' hb hb'=>by
  by_cases hne:κ'=nk
  · exact hne
  · obtain ⟨h1,h2⟩:=hold κ' _ hne hu'
    rcases (hblk b hb).2 with h3 | h3
    · have:=(h.own κ' _ _ _ h2).lt hb'
      omega
    · obtain ⟨κ0,e0,s0,u0,rfl,h4,h5⟩:=hrow b h3
      have:=h.dist κ' κ0 _ _ _ _ _ _ b h2 h4 hb' h5
      subst this
      simp [hasN] at h1
 have hβ:∀ b,v'.ownBlock=some b->∀ i,g.β i ≠ some b:=fun b hb i hi=>by
  rcases (hblk b hb).2 with h3 | h3
  · have:=h.lt i b hi
    omega
  · obtain ⟨κ0,e0,s0,u0,_,h4,h5⟩:=hrow b h3
    exact (h.own κ0 _ _ _ h4).no b h5 i hi
 exact {
  step:=⟨hg.os,hg.tape,hg.output,hg.size,hk.ext,fun b hb hm=>by
   have hr:row ≠ some b:=fun e=>by
    obtain ⟨κ0,e0,s0,u0,_,h4,h5⟩:=hrow b e
    exact hm (.inr ⟨κ0,e0,s0,u0,h4,h5⟩)
   refine ⟨hg.block b hb (fun e=>hr e.symm),hφo b (fun e=>?_)⟩
   rcases (hblk b e).2 with h3 | h3
   · omega
   · exact hr h3,fun b hb=>by
   rcases hb with hb | ⟨κ,e1,s1,u1,hu,hb⟩
   · exact .inl (.inl hb)
   · by_cases hne:κ=nk
     · subst hne
       simp only [if_true,Option.some.injEq,Prod.mk.injEq] at hu
       obtain ⟨_,_,rfl⟩:=hu
       rcases (hblk b hb).2 with h3 | h3
       · exact .inr h3
       · obtain ⟨κ0,e0,s0,u0,_,h4,h5⟩:=hrow b h3
         exact .inl (.inr ⟨κ0,e0,s0,u0,h4,h5⟩)
     · exact .inl (.inr ⟨κ,e1,s1,u1,(hold κ _ hne hu).2,hb⟩)⟩
  keeps:=hk
  val:=.one _ _ (.own nk e sz rows v' hrep (fun e' s' u hu=>by
   simp only [if_true,Option.some.injEq,Prod.mk.injEq] at hu
   obtain ⟨rfl,rfl,rfl⟩:=hu
   exact ⟨rfl,rfl,rfl⟩) (.inr rfl))
  fresh:=fun b hb=>by
   show φ' b=0
   replace hb:w'.heap.size<=b:=hb
   rw [hφo b (fun e=>by have:=(hblk b e).1;omega)]
   exact h.fresh b (Nat.le_trans hg.size hb)
  hw:=fun i x hx=>by cases hx
  oth:=fun i B hi _=>by
   have h1:row ≠ some B:=fun e=>by
    obtain ⟨κ0,e0,s0,u0,_,h4,h5⟩:=hrow B e
    exact (h.own κ0 _ _ _ h4).no B h5 i hi
   exact ⟨hg.block B (h.lt i B hi) (fun e=>h1 e.symm),hφo B (fun e=>hβ B e i hi)⟩
  new:=fun i B hi=>.inl hi
  use:=fun κ hκ=>by
   rcases hκ with hκ | hκ
   · exact .inl hκ
   · exact .inr (by subst hκ;simp [hasN])
  born:=fun κ hκ=>by
   have:κ=nk:=by
    simp only [hasN] at hκ
    cases hq:Nat.beq nk κ
    · rw [hq] at hκ;cases hκ
    · exact (Nat.eq_of_beq_eq_true hq).symm
   subst this
   exact ⟨e,sz,v',if_pos rfl⟩
  alive:=fun κ t ht hq=>by
   have hne:κ ≠ nk:=fun e=>by subst e;exact hnks t ht
   show (if κ=nk then _ else if hasN κ kill then none else g.gk κ)=_
   rw [if_neg hne,hq]
   exact ht
  keys:=fun κ e1 s1 u1 hu=>by
   by_cases hne:κ=nk
   · subst hne
     simp only [if_true,Option.some.injEq,Prod.mk.injEq] at hu
     obtain ⟨rfl,rfl,rfl⟩:=hu
     refine .inr ⟨by simp [hasN],⟨⟨n,xs,hown,hφ'⟩,hβ⟩,.inr rfl,fun b hb=>?_,fun κ' e' s' u' b hu' hb hb'=>hnew κ' e' s' u' b hu' hb hb'⟩
     rcases (hblk b hb).2 with h3 | h3
     · exact .inl h3
     · obtain ⟨κ0,e0,s0,u0,rfl,h4,h5⟩:=hrow b h3
       exact .inr ⟨κ0,e0,s0,u0,by simp [hasN],h4,h5⟩
   · obtain ⟨h1,h2⟩:=hold κ _ hne hu
     refine .inl ⟨?_,h1,h2,fun b hb=>?_⟩
     · simp only [hasN]
       cases hq:Nat.beq nk κ
       · rfl
       · exact absurd (Nat.eq_of_beq_eq_true hq).symm hne
     · have h3:row ≠ some b:=fun e=>by
        obtain ⟨κ0,e0,s0,u0,rfl,h4,h5⟩:=hrow b e
        have:=h.dist κ κ0 _ _ _ _ _ _ b h2 h4 hb h5
        subst this
        simp [hasN] at h1
       refine ⟨hg.block b ((h.own κ _ _ _ h2).lt hb) (fun e=>h3 e.symm),hφo b (fun e=>?_)⟩
       rcases (hblk b e).2 with h4 | h4
       · have:=(h.own κ _ _ _ h2).lt hb
         omega
       · exact h3 h4 }
end Go.Proofs.YtaphnbaiamnfpaaGreatDoor.Ps
