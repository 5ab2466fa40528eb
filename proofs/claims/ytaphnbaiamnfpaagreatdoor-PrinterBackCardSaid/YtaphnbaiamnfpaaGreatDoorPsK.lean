/- Calls: what is handed over, what comes back. -/
import Derived.Test.YtaphnbaiamnfpaaGreatDoorPsJ
namespace Go.Proofs.YtaphnbaiamnfpaaGreatDoor.Ps
set_option linter.unusedVariables false
set_option linter.unusedSimpArgs false
open Go Go.RowKit
theorem X.ren_d (fb fk:Nat->Option Nat) (d:D):(X.d d).ren fb fk=.d d:=by rw [X.ren]
mutual
theorem RepX.ren {g g':G} (fb fk:Nat->Option Nat) (hext:Ext g.w g.φ g'.w g'.φ) (hβ:∀ b i,fb b=some i->∀ B,g.β b=some B->g'.β i=some B)
 (hty:∀ B T,TyAt g.w B T->TyAt g'.w B T) (hk:∀ κ i,fk κ=some i->g.us κ->g'.us i∧∀ t,g'.gk i=some t->g.gk κ=some t):∀ (x:X) (v:Value),RepX g x v->RepX g' (x.ren fb fk) v
 | X.d q,v,h=>by
  rw [X.ren]
  cases h with | d _ _ h=>exact .d _ _ (h.mono hext)
 | X.own κ e sz rows,v,h=>by
  rw [X.ren]
  cases h with
  | own _ _ _ _ _ h h1 h2 =>
   split
   · rename_i i hi
     obtain ⟨h3,h4⟩:=hk κ i hi h2
     exact .own i e sz rows v (h.mono hext) (fun e' s' u hu=>h1 e' s' u (h4 _ hu)) h3
   · exact .d _ _ (h.mono hext)
 | X.nilL sz,v,h=>by
  rw [X.ren]
  cases h with | nilL=>exact .nilL sz
 | X.ptr b off,v,h=>by
  rw [X.ren]
  cases h with
  | ptr _ B _ h =>
   split
   · rename_i i hi
     exact .ptr i B off (hβ b i hi B h)
   · exact .d _ _ (.junk _ rfl)
 | X.rptr sz row off,v,h=>by
  rw [X.ren]
  cases h with
  | rptr _ _ b o _ vs h1 h2 h3 h4 =>
   exact .rptr sz row b o off vs (Nat.le_trans h1 (hext.le b)) (fun j hj=>by rw [hext.cell b _ (by omega)];exact h2 j hj) h3 (fun j hj=>(h4 j hj).mono hext)
 | X.slf b,v,h=>by
  rw [X.ren]
  cases h with
  | slf0 _ B h ht =>
   split
   · rename_i i hi
     exact .slf0 i B (hβ b i hi B h) (hty _ _ ht)
   · exact .d _ _ (.junk _ rfl)
  | slf1 _ B h =>
   split
   · rename_i i hi
     exact .slf1 i B (hβ b i hi B h)
   · exact .d _ _ (.junk _ rfl)
 | X.fn f caps,v,h=>by
  rw [X.ren]
  cases h with
  | fn _ _ vs hl hr =>
   obtain ⟨h1,h2⟩:=RepX.renL fb fk hext hβ hty hk caps vs ⟨hl,hr⟩
   exact .fn f _ vs h1 h2
theorem RepX.renL {g g':G} (fb fk:Nat->Option Nat) (hext:Ext g.w g.φ g'.w g'.φ) (hβ:∀ b i,fb b=some i->∀ B,g.β b=some B->g'.β i=some B)
 (hty:∀ B T,TyAt g.w B T->TyAt g'.w B T) (hk:∀ κ i,fk κ=some i->g.us κ->g'.us i∧∀ t,g'.gk i=some t->g.gk κ=some t):∀ (xs:List X) (vs:List Value),kaR g xs vs->kaR g' (X.renL fb fk xs) vs
 | [],vs,h=>by
  rw [X.renL]
  have:vs=[]:=List.eq_nil_of_length_eq_zero h.1
  subst this
  exact .nil g'
 | x :: xs,vs,h=>by
  rw [X.renL]
  cases vs with
  | nil=>exact absurd h.1 (by simp)
  | cons v vs=>exact .cons (RepX.ren fb fk hext hβ hty hk x v h.head.1) (RepX.renL fb fk hext hβ hty hk xs vs h.head.2)
end
mutual
theorem RepV.ren {g g':G} (fb fk:Nat->Option Nat) (hext:Ext g.w g.φ g'.w g'.φ) (hβ:∀ b i,fb b=some i->∀ B,g.β b=some B->g'.β i=some B)
 (hty:∀ B T,TyAt g.w B T->TyAt g'.w B T) (hk:∀ κ i,fk κ=some i->g.us κ->g'.us i∧∀ t,g'.gk i=some t->g.gk κ=some t):∀ (x:V) (v:Value),RepV g x v->RepV g' (x.ren fb fk) v
 | V.one x,v,h=>by
  rw [V.ren]
  cases h with | one _ _ h=>exact .one _ _ (RepX.ren fb fk hext hβ hty hk x v h)
 | V.agg cs,v,h=>by
  rw [V.ren]
  cases h with
  | agg _ vs hl hr =>
   obtain ⟨h1,h2⟩:=RepX.renL fb fk hext hβ hty hk cs vs ⟨hl,hr⟩
   exact .agg _ vs h1 h2
 | V.tup xs,v,h=>by
  rw [V.ren]
  cases h with
  | tup _ vs hl hr =>
   obtain ⟨h1,h2⟩:=RepV.renL fb fk hext hβ hty hk xs vs ⟨hl,hr⟩
   exact .tup _ vs h1 h2
 | V.junk,v,h=>by
  rw [V.ren]
  exact .junk v
theorem RepV.renL {g g':G} (fb fk:Nat->Option Nat) (hext:Ext g.w g.φ g'.w g'.φ) (hβ:∀ b i,fb b=some i->∀ B,g.β b=some B->g'.β i=some B)
 (hty:∀ B T,TyAt g.w B T->TyAt g'.w B T) (hk:∀ κ i,fk κ=some i->g.us κ->g'.us i∧∀ t,g'.gk i=some t->g.gk κ=some t):∀ (xs:List V) (vs:List Value),ka7 g xs vs->ka7 g' (V.renL fb fk xs) vs
 | [],vs,h=>by
  rw [V.renL]
  have:vs=[]:=List.eq_nil_of_length_eq_zero h.1
  subst this
  exact .nil g'
 | x :: xs,vs,h=>by
  rw [V.renL]
  cases vs with
  | nil=>exact absurd h.1 (by simp)
  | cons v vs=>exact .cons (RepV.ren fb fk hext hβ hty hk x v h.head.1) (RepV.renL fb fk hext hβ hty hk xs vs h.head.2)
end
theorem knv {b:Nat}:∀ {l:List Nat} {k i:Nat},idx b l k=some i->k<=i∧l[i - k]? = some b
 | [],k,i,h=>by cases h
 | x :: r,k,i,h=>by
  unfold idx at h
  cases hq:Nat.beq x b
  · rw [hq] at h
    obtain ⟨h1,h2⟩:=knv (l:=r) h
    refine ⟨by omega,?_⟩
    have:i - k=(i - (k+1))+1:=by omega
    rw [this]
    exact h2
  · rw [hq] at h
    have e:=Nat.eq_of_beq_eq_true hq
    cases h
    subst e
    exact ⟨Nat.le_refl _,by simp⟩
mutual
theorem X.ids_nodup:∀ (x:X) (acc:List Nat),acc.Nodup->(x.ids acc).Nodup
 | .ptr b off,acc,h=>by
  rw [X.ids]
  cases hq:hasN b acc
  · have:b ∉ acc:=fun hm=>by rw [(kaZ b acc).2 hm] at hq;cases hq
    show (acc++[b]).Nodup
    rw [List.nodup_append]
    refine ⟨h,by simp,?_⟩
    intro x hx y hy
    simp at hy
    subst hy
    exact fun e=>this (e▸hx)
  · exact h
 | .fn f caps,acc,h=>by rw [X.ids];exact X.idsL_nodup caps acc h
 | .d _,acc,h=>by rw [X.ids];exact h;all_goals (intros;contradiction)
 | .own _ _ _ _,acc,h=>by rw [X.ids];exact h;all_goals (intros;contradiction)
 | .nilL _,acc,h=>by rw [X.ids];exact h;all_goals (intros;contradiction)
 | .rptr _ _ _,acc,h=>by rw [X.ids];exact h;all_goals (intros;contradiction)
 | .slf _,acc,h=>by rw [X.ids];exact h;all_goals (intros;contradiction)
theorem X.idsL_nodup:∀ (xs:List X) (acc:List Nat),acc.Nodup->(X.idsL xs acc).Nodup
 | [],acc,h=>by rw [X.idsL];exact h
 | x :: xs,acc,h=>by rw [X.idsL];exact X.idsL_nodup xs _ (X.ids_nodup x acc h)
end
theorem V.ids_nodup (x:V) (acc:List Nat) (h:acc.Nodup):(x.ids acc).Nodup:=by
 cases x with
 | one x=>exact X.ids_nodup x acc h
 | agg cs=>exact X.idsL_nodup cs acc h
 | _=>exact h
theorem V.idsL_nodup:∀ (xs:List V) (acc:List Nat),acc.Nodup->(V.idsL xs acc).Nodup
 | [],acc,h=>h
 | x :: xs,acc,h=>V.idsL_nodup xs _ (V.ids_nodup x acc h)
theorem kdS {l:List Nat} (h:l.Nodup) {i j b:Nat} (hi:l[i]? = some b) (hj:l[j]? = some b):i=j:=by
 obtain ⟨h1,h2⟩:=List.getElem?_eq_some_iff.1 hi
 obtain ⟨h3,h4⟩:=List.getElem?_eq_some_iff.1 hj
 rcases Nat.lt_trichotomy i j with hlt | he | hlt
 · exact absurd (h2.trans h4.symm) (List.pairwise_iff_getElem.1 h i j h1 h3 hlt)
 · exact he
 · exact absurd (h4.trans h2.symm) (List.pairwise_iff_getElem.1 h j i h3 h1 hlt)
theorem kc2 {ids:List Nat} {b i:Nat} (h:idx b ids 0=some i):ids[i]? = some b:=by
 have:=(knv h).2
 rwa [Nat.sub_zero] at this
def G.by (g:G) (ids ks:List Nat):G:=⟨g.w,g.φ,fun i=>(ids[i]?).bind g.β,fun i=>(ks[i]?).bind g.gk,fun i=>i < ks.length⟩
theorem kyf {g:G} {ids ks:List Nat} {b:Nat} (h:Mut (g.by ids ks) b):Mut g b:=by
 rcases h with ⟨i,hi⟩ | ⟨κ,e,s,u,hu,hb⟩
 · have hi':(ids[i]?).bind g.β=some b:=hi
   rw [Option.bind_eq_some_iff] at hi'
   obtain ⟨q,_,h2⟩:=hi'
   exact .inl ⟨q,h2⟩
 · have hu':(ks[κ]?).bind g.gk=some (e,s,u):=hu
   rw [Option.bind_eq_some_iff] at hu'
   obtain ⟨q,_,h2⟩:=hu'
   exact .inr ⟨q,e,s,u,h2,hb⟩
theorem krd (g:G) (ids ks:List Nat):Step g (g.by ids ks) :=
 ⟨rfl,rfl,rfl,Nat.le_refl _,Ext.refl _ _,fun _ _ _=>⟨rfl,rfl⟩,fun b hb=>.inl (kyf hb)⟩
theorem kDJ {g:G} {ids ks:List Nat} {x:V} {v:Value} (h:RepV g x v):RepV (g.by ids ks) (x.ren (fun b=>idx b ids 0) (fun κ=>idx κ ks 0)) v :=
 RepV.ren (g:=g) (g':=g.by ids ks) _ _ (Ext.refl _ _) (fun b i hi B hB=>by
  show (ids[i]?).bind g.β=_
  rw [kc2 hi]
  exact hB) (fun _ _ h=>h) (fun κ i hi hu=>by
  have e:=kc2 hi
  refine ⟨(List.getElem?_eq_some_iff.1 e).1,fun t ht=>?_⟩
  have ht':(ks[i]?).bind g.gk=some t:=ht
  rw [e] at ht'
  exact ht') x v h
theorem kre {g:G} {ids ks:List Nat} {xs:List X} {vs:List Value} (h:kaR g xs vs):kaR (g.by ids ks) (X.renL (fun b=>idx b ids 0) (fun κ=>idx κ ks 0) xs) vs :=
 RepX.renL (g:=g) (g':=g.by ids ks) _ _ (Ext.refl _ _) (fun b i hi B hB=>by
  show (ids[i]?).bind g.β=_
  rw [kc2 hi]
  exact hB) (fun _ _ h=>h) (fun κ i hi hu=>by
  have e:=kc2 hi
  refine ⟨(List.getElem?_eq_some_iff.1 e).1,fun t ht=>?_⟩
  have ht':(ks[i]?).bind g.gk=some t:=ht
  rw [e] at ht'
  exact ht') xs vs h
end Go.Proofs.YtaphnbaiamnfpaaGreatDoor.Ps
