/- Code of the small language does what the machine's code does. -/
import Derived.Test.YtaphnbaiamnfpaaGreatDoorPsR
namespace Go.Proofs.YtaphnbaiamnfpaaGreatDoor.Ps
set_option linter.unusedVariables false
set_option linter.unusedSimpArgs false
open Go Go.RowKit
theorem krz {P:Program} {c:Code} {Q:Exit->Act->World->Prop} (I:Nat->Act->World->Prop)
 (round:∀ n a w,I n a w->c.wp P (Exit.then (fun a' w'=>∃ m,m < n∧I m a' w') Q) a w) (n:Nat) (a:Act) (w:World) (h:I n a w):(Code.loop c).wp P Q a w:=by
 intro b k cs
 have key:∀ n a w,I n a w->∃ e a' w',Q e a' w'∧Arrives P (lone (b.at a (.code c :: .inLoop c :: k)) cs w) b k cs e a' w':=by
  intro n
  induction n using Nat.strongRecOn with
  | _ n ih =>
   intro a w hI
   obtain ⟨e,a1,w1,hq,harr⟩:=round n a w hI b (.inLoop c :: k) cs
   cases e with
   | normal =>
    obtain ⟨m,hm,hI1⟩:=hq
    obtain ⟨e2,a2,w2,hq2,harr2⟩:=ih m hm a1 w1 hI1
    exact ⟨e2,a2,w2,hq2,.of_steps (Steps.trans harr (.one step_inLoop)) harr2⟩
   | exit id=>exact ⟨_,a1,w1,hq,.pass (x:=.inLoop c) rfl (fun _ _=>.inl (by simp)) harr⟩
   | goto l=>exact ⟨_,a1,w1,hq,.pass (x:=.inLoop c) rfl (fun _ _=>.inl (by simp)) harr⟩
   | ret=>exact ⟨_,a1,w1,hq,.pass (x:=.inLoop c) rfl (fun _ _=>.inl (by simp)) harr⟩
   | panic ch=>exact ⟨_,a1,w1,hq,.pass (x:=.inLoop c) rfl (fun _ _=>.inl (by simp)) harr⟩
   | outgrown=>exact ⟨_,a1,w1,hq,.pass (x:=.inLoop c) rfl (fun _ _=>.inl (by simp)) harr⟩
 obtain ⟨e,a',w',hq,harr⟩:=key n a w h
 exact ⟨e,a',w',hq,.of_steps (.one step_loop) harr⟩
section
variable (P:Program) (N:Nat)
def kbd:List (Option (List Nat))->Code->Option (SCode × List (Option (List Nat)))
 | lv,.skip=>some (.skip,lv)
 | lv,.region _ ops draw=>match ops.toList.mapM (kdV P N ops) with
  | some l=>cond (draw&&l.any fun o=>o.op.isDf) none (some (.region draw l,lv))
  | none=>none
 | lo :: lv,.seq a b=>match kbd lv a with
  | some (x,lv)=>match kbd lv b with
   | some (y,lv)=>some (.seq lo x y,lv)
   | none=>none
  | none=>none
 | lv,.cond c a b=>match arg P 0 c with
  | some c'=>match kbd lv a with
   | some (x,lv)=>match kbd lv b with
    | some (y,lv)=>some (.cond c' x y,lv)
    | none=>none
   | none=>none
  | none=>none
 | lv,.block id c=>match kbd lv c with
  | some (x,lv)=>some (.block id x,lv)
  | none=>none
 | some l :: lv,.loop c=>match kbd lv c with
  | some (x,lv)=>some (.loop l x,lv)
  | none=>none
 | lv,.exit id=>some (.exit id,lv)
 | lv,.ret=>some (.ret,lv)
 | _,_=>none
end
section
variable {P:Program} {N:Nat} {Γ:SemL} {shp:FuncId->Sh}
def Ends (g:G) (s:St):SExit->Exit->Prop
 | .norm,e=>e=.normal∧Fresh g s.nb s.nk
 | .exit id,e=>e=.exit id∧Fresh g s.nb s.nk
 | .ret,e=>e=.ret∧Fresh g s.nb s.nk
 | .pan d,e=>∃ u,e=.panic [{ v:=u,recovered:=false }]∧RepD g.w g.φ d u
structure Post {α:Type} (N np:Nat) (K:SExit->St->Option α) (r:α) (g0:G) (e:Exit) (a:Act) (w:World) (se:SExit) (s:St) (g:G):Prop where
 w:g.w=w
 k:K se s=some r
 tr:Tr np g0 g
 rep:Rep N g s.view a
 np:s.np=np
 df:DfR g s.dfs a.defers
 ends:Ends g s se e
def krA {α:Type} (N np:Nat) (K:SExit->St->Option α) (r:α) (g0:G) (e:Exit) (a:Act) (w:World):Prop:=∃ se s g,Post N np K r g0 e a w se s g
theorem kdX {w0:World} (hΓ:keY P w0 Γ) (hm:P.follows .mixedOrders=true) {α:Type} {r:α} {np:Nat}:∀ (c:Code) (lv:List (Option (List Nat))) (sc:SCode) (lv':List (Option (List Nat))),kbd P N lv c=some (sc,lv') ->
 ∀ (n:Nat) (s:St) (K:SExit->St->Option α) (g0 g:G) (a:Act),kbC Γ shp (kdH Γ shp n) sc s K=some r->Since w0 g0->Tr np g0 g->Rep N g s.view a->Fresh g s.nb s.nk->s.np=np->DfR g s.dfs a.defers ->
  c.wp P (krA N np K r g0) a g.w
 | .skip,lv,sc,lv',hc,n,s,K,g0,g,a,h,hs,ht,hr,hf,hn,hd=>by
  unfold kbd at hc
  cases hc
  exact wp_skip ⟨_,s,g,rfl,h,ht,hr,hn,hd,rfl,hf⟩
 | .region id ops draw,lv,sc,lv',hc,n,s,K,g0,g,a,h,hs,ht,hr,hf,hn,hd=>by
  unfold kbd at hc
  split at hc
  rotate_left
  · cases hc
  rename_i sl hsl
  obtain ⟨hdw,e⟩:(draw&&sl.any fun o=>o.op.isDf)=false∧sc=.region draw sl∧lv'=lv:=by
   cases hq:(draw&&sl.any fun o=>o.op.isDf)
   · rw [hq] at hc
     cases hc
     exact ⟨rfl,rfl,rfl⟩
   · rw [hq] at hc
     cases hc
  obtain ⟨rfl,rfl⟩:=e
  clear hc
  cases draw with
  | false =>
   simp only [kbC] at h
   refine wp_region ?_
   have:=kro (N:=N) hΓ (ops:=ops) (krA N np K r g0) (ht.step.since hs) (K:=fun s=>K .norm s) (Kp:=fun d s=>K (.pan d) s) (g0:=g) (np:=np) (r:=r)
    (fun s' g' a' hk hst hkp hrep hf' hnp hdf=>⟨_,s',g',rfl,hk,ht.trans (Tr.of hst hkp),hrep,hnp,hdf,rfl,hf'⟩)
    (fun d s' g' a' u hk hst hkp hrep hnp hdf hu=>⟨_,s',g',rfl,hk,ht.trans (Tr.of hst hkp),hrep,hnp,hdf,u,rfl,hu⟩)
    ops.toList sl 0 s g a (fun j=>by simp) hsl h (Step.refl g) (Keeps.refl g) hr hf hn hd
   rw [Array.length_toList,<- List.range_eq_range'] at this
   exact this
  | true =>
   simp only [kbC] at h
   obtain ⟨haf,h⟩:=kac h
   refine wp_region_any hm ?_
   exact kAM (N:=N) hΓ (krA N np K r g0) (ht.step.since hs) (K:=fun s=>K .norm s) (Kp:=fun d s=>K (.pan d) s) (g0:=g) (np:=np) (r:=r)
    (fun s' g' a' hk hst hkp hrep hf' hnp hdf=>⟨_,s',g',rfl,hk,ht.trans (Tr.of hst hkp),hrep,hnp,hdf,rfl,hf'⟩)
    (fun d s' g' a' u hk hst hkp hrep hnp hdf hu=>⟨_,s',g',rfl,hk,ht.trans (Tr.of hst hkp),hrep,hnp,hdf,u,rfl,hu⟩)
    sl s a hsl (fun o ho=>by
     rw [Bool.true_and,List.any_eq_false] at hdw
     exact Bool.eq_false_iff.2 (hdw o ho)) haf h hr hf hn hd
 | .seq c1 c2,[],sc,lv',hc,n,s,K,g0,g,a,h,hs,ht,hr,hf,hn,hd=>by cases hc
 | .seq c1 c2,lo :: lv,sc,lv',hc,n,s,K,g0,g,a,h,hs,ht,hr,hf,hn,hd=>by
  unfold kbd at hc
  split at hc
  · rename_i x lv1 h1
    split at hc
    · rename_i y lv2 h2
      cases hc
      simp only [kbC] at h
      refine wp_seq ?_
      have ih:=kdX hΓ hm c1 lv x lv1 h1 n s _ g0 g a h hs ht hr hf hn hd
      refine wp_mono ih ?_
      rintro e a' w' ⟨se,s',g',rfl,hk,ht',hr',hn',hd',he⟩
      cases se with
      | norm =>
       obtain ⟨rfl,hf'⟩:=he
       cases lo with
       | none=>exact kdX hΓ hm c2 lv1 y _ h2 n s' K g0 g' a' hk hs ht' hr' hf' hn' hd'
       | some l =>
        obtain ⟨g1,hw1,ht1,hr1,hf1,hn1,hdn⟩:=klU hr' l
        rw [hn'] at ht1 hn1
        rw [<- hw1]
        exact kdX hΓ hm c2 lv1 y _ h2 n (s'.norm l) K g0 g1 a' hk hs (ht'.trans ht1) hr1 hf1 hn1 (hdn _ hd')
      | exit id=>obtain ⟨rfl,hf'⟩:=he;exact ⟨_,s',g',rfl,hk,ht',hr',hn',hd',rfl,hf'⟩
      | ret=>obtain ⟨rfl,hf'⟩:=he;exact ⟨_,s',g',rfl,hk,ht',hr',hn',hd',rfl,hf'⟩
      | pan d=>obtain ⟨u,rfl,hu⟩:=he;exact ⟨_,s',g',rfl,hk,ht',hr',hn',hd',u,rfl,hu⟩
    · cases hc
  · cases hc
 | .cond q c1 c2,lv,sc,lv',hc,n,s,K,g0,g,a,h,hs,ht,hr,hf,hn,hd=>by
  unfold kbd at hc
  split at hc
  · rename_i q' hq
    split at hc
    · rename_i x lv1 h1
      split at hc
      · rename_i y lv2 h2
        cases hc
        simp only [kbC] at h
        obtain ⟨b,hb,h⟩:=kbg h
        have hrep:=kaT hr hq
        have hb':ev s.view.env q'=dv (.bool b):=hb
        rw [hb'] at hrep
        have e:=hrep.bool_eq
        cases b
        · exact wp_cond_false e (kdX hΓ hm c2 lv1 y _ h2 n s K g0 g a h hs ht hr hf hn hd)
        · exact wp_cond_true e (kdX hΓ hm c1 lv x lv1 h1 n s K g0 g a h hs ht hr hf hn hd)
      · cases hc
    · cases hc
  · cases hc
 | .block id c,lv,sc,lv',hc,n,s,K,g0,g,a,h,hs,ht,hr,hf,hn,hd=>by
  unfold kbd at hc
  split at hc
  · rename_i x lv1 h1
    cases hc
    simp only [kbC] at h
    refine wp_block ?_
    refine wp_mono (kdX hΓ hm c lv x _ h1 n s _ g0 g a h hs ht hr hf hn hd) ?_
    rintro e a' w' ⟨se,s',g',rfl,hk,ht',hr',hn',hd',he⟩
    cases se with
    | norm=>obtain ⟨rfl,hf'⟩:=he;exact ⟨_,s',g',rfl,hk,ht',hr',hn',hd',rfl,hf'⟩
    | exit id' =>
     obtain ⟨rfl,hf'⟩:=he
     show if id'=id then _ else _
     cases hq:Nat.beq id' id
     · have hne:id' ≠ id:=fun e=>by subst e;simp at hq
       rw [if_neg hne]
       simp only [kBlk,hq] at hk
       exact ⟨_,s',g',rfl,hk,ht',hr',hn',hd',rfl,hf'⟩
     · have e:=Nat.eq_of_beq_eq_true hq
       rw [if_pos e]
       simp only [kBlk,hq] at hk
       exact ⟨_,s',g',rfl,hk,ht',hr',hn',hd',rfl,hf'⟩
    | ret=>obtain ⟨rfl,hf'⟩:=he;exact ⟨_,s',g',rfl,hk,ht',hr',hn',hd',rfl,hf'⟩
    | pan d=>obtain ⟨u,rfl,hu⟩:=he;exact ⟨_,s',g',rfl,hk,ht',hr',hn',hd',u,rfl,hu⟩
  · cases hc
 | .loop c,[],sc,lv',hc,n,s,K,g0,g,a,h,hs,ht,hr,hf,hn,hd=>by cases hc
 | .loop c,none :: lv,sc,lv',hc,n,s,K,g0,g,a,h,hs,ht,hr,hf,hn,hd=>by cases hc
 | .loop c,some l :: lv,sc,lv',hc,n,s,K,g0,g,a,h,hs,ht,hr,hf,hn,hd=>by
  unfold kbd at hc
  split at hc
  · rename_i x lv1 h1
    cases hc
    simp only [kbC] at h
    obtain ⟨g1,hw1,ht1,hr1,hf1,hn1,hdn⟩:=klU hr l
    rw [hn] at ht1 hn1
    have hI:=krz (P:=P) (c:=c) (Q:=krA N np K r g0) (fun n a w=>∃ s g,g.w=w∧kdH Γ shp n l x s K=some r∧Tr np g0 g∧Rep N g s.view a∧Fresh g s.nb s.nk∧s.np=np∧DfR g s.dfs a.defers) ?_ n a g.w
     ⟨_,g1,hw1,h,ht.trans ht1,hr1,hf1,hn1,hdn _ hd⟩
    · exact hI
    · rintro n a w ⟨s,g,rfl,h,ht,hr,hf,hn,hd⟩
      cases n with
      | zero=>cases h
      | succ n =>
       unfold kdH at h
       refine wp_mono (kdX hΓ hm c lv x _ h1 n s _ g0 g a h hs ht hr hf hn hd) ?_
       rintro e a' w' ⟨se,s',g',rfl,hk,ht',hr',hn',hd',he⟩
       cases se with
       | norm =>
        obtain ⟨rfl,hf'⟩:=he
        obtain ⟨g2,hw2,ht2,hr2,hf2,hn2,hdn2⟩:=klU hr' l
        rw [hn'] at ht2 hn2
        exact ⟨n,by omega,_,g2,hw2,hk,ht'.trans ht2,hr2,hf2,hn2,hdn2 _ hd'⟩
       | exit id'=>obtain ⟨rfl,hf'⟩:=he;exact ⟨_,s',g',rfl,hk,ht',hr',hn',hd',rfl,hf'⟩
       | ret=>obtain ⟨rfl,hf'⟩:=he;exact ⟨_,s',g',rfl,hk,ht',hr',hn',hd',rfl,hf'⟩
       | pan d=>obtain ⟨u,rfl,hu⟩:=he;exact ⟨_,s',g',rfl,hk,ht',hr',hn',hd',u,rfl,hu⟩
  · cases hc
 | .exit id,lv,sc,lv',hc,n,s,K,g0,g,a,h,hs,ht,hr,hf,hn,hd=>by
  unfold kbd at hc
  cases hc
  exact wp_exit ⟨_,s,g,rfl,h,ht,hr,hn,hd,rfl,hf⟩
 | .ret,lv,sc,lv',hc,n,s,K,g0,g,a,h,hs,ht,hr,hf,hn,hd=>by
  unfold kbd at hc
  cases hc
  exact wp_ret ⟨_,s,g,rfl,h,ht,hr,hn,hd,rfl,hf⟩
 | .rangeFunc _ _ _ _,lv,sc,lv',hc,n,s,K,g0,g,a,h,hs,ht,hr,hf,hn,hd=>by cases lv<;>cases hc
 | .scope _,lv,sc,lv',hc,n,s,K,g0,g,a,h,hs,ht,hr,hf,hn,hd=>by cases lv<;>cases hc
 | .label _,lv,sc,lv',hc,n,s,K,g0,g,a,h,hs,ht,hr,hf,hn,hd=>by cases lv<;>cases hc
 | .goto _,lv,sc,lv',hc,n,s,K,g0,g,a,h,hs,ht,hr,hf,hn,hd=>by cases lv<;>cases hc
 | .refuse _,lv,sc,lv',hc,n,s,K,g0,g,a,h,hs,ht,hr,hf,hn,hd=>by cases lv<;>cases hc
end
end Go.Proofs.YtaphnbaiamnfpaaGreatDoor.Ps
