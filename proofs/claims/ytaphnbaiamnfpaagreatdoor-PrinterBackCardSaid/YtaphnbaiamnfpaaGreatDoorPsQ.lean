/- At a loop's head: what lives, under numbers of its own. -/
import Derived.Test.YtaphnbaiamnfpaaGreatDoorPsP
namespace Go.Proofs.YtaphnbaiamnfpaaGreatDoor.Ps
set_option linter.unusedVariables false
set_option linter.unusedSimpArgs false
open Go Go.RowKit
structure Tr (np:Nat) (g g':G):Prop where
 step:Step g g'
 β:∀ i B,i < np->g.β i=some B->g'.β i=some B
 ty:∀ i B T,i < np->g.β i=some B->TyAt g.w B T->TyAt g'.w B T
theorem Tr.refl (np:Nat) (g:G):Tr np g g:=⟨Step.refl g,fun _ _ _ h=>h,fun _ _ _ _ _ h=>h⟩
theorem Tr.trans {np:Nat} {g g' g'':G} (h:Tr np g g') (k:Tr np g' g''):Tr np g g'':=⟨h.step.trans k.step,fun i B hi hb=>k.β i B hi (h.β i B hi hb),fun i B T hi hb ht=>k.ty i B T hi (h.β i B hi hb) (h.ty i B T hi hb ht)⟩
theorem Tr.of {np:Nat} {g g':G} (h:Step g g') (k:Keeps g g'):Tr np g g':=⟨h,fun i B _ hb=>k.β i B hb,fun i B T _ hb=>k.ty i B T hb⟩
mutual
theorem X.ids_pre:∀ (x:X) (acc:List Nat),∃ l,x.ids acc=acc++l
 | .ptr b off,acc=>by
  rw [X.ids]
  cases hasN b acc
  · exact ⟨[b],rfl⟩
  · exact ⟨[],by simp⟩
 | .fn f caps,acc=>by rw [X.ids];exact X.idsL_pre caps acc
 | .d _,acc=>by rw [X.ids];exact ⟨[],by simp⟩;all_goals (intros;contradiction)
 | .own _ _ _ _,acc=>by rw [X.ids];exact ⟨[],by simp⟩;all_goals (intros;contradiction)
 | .nilL _,acc=>by rw [X.ids];exact ⟨[],by simp⟩;all_goals (intros;contradiction)
 | .rptr _ _ _,acc=>by rw [X.ids];exact ⟨[],by simp⟩;all_goals (intros;contradiction)
 | .slf _,acc=>by rw [X.ids];exact ⟨[],by simp⟩;all_goals (intros;contradiction)
theorem X.idsL_pre:∀ (xs:List X) (acc:List Nat),∃ l,X.idsL xs acc=acc++l
 | [],acc=>by rw [X.idsL];exact ⟨[],by simp⟩
 | x :: xs,acc=>by
  rw [X.idsL]
  obtain ⟨l,h⟩:=X.ids_pre x acc
  obtain ⟨l',h'⟩:=X.idsL_pre xs (x.ids acc)
  exact ⟨l++l',by rw [h',h,List.append_assoc]⟩
end
theorem V.ids_pre (x:V) (acc:List Nat):∃ l,x.ids acc=acc++l:=by
 cases x with
 | one x=>exact X.ids_pre x acc
 | agg cs=>exact X.idsL_pre cs acc
 | _=>exact ⟨[],by simp [V.ids]⟩
theorem V.idsL_pre:∀ (xs:List V) (acc:List Nat),∃ l,V.idsL xs acc=acc++l
 | [],acc=>⟨[],by simp [V.idsL]⟩
 | x :: xs,acc=>by
  obtain ⟨l,h⟩:=V.ids_pre x acc
  obtain ⟨l',h'⟩:=V.idsL_pre xs (x.ids acc)
  exact ⟨l++l',by rw [V.idsL,h',h,List.append_assoc]⟩
structure KeysOk (live acc:List Nat):Prop where
 nodup:acc.Nodup
 live:∀ κ,κ∈acc->hasN κ live=true
mutual
theorem X.keys_ok {live:List Nat}:∀ (x:X) (acc:List Nat),KeysOk live acc->KeysOk live (x.keys live acc)
 | .own κ e sz rows,acc,h=>by
  rw [X.keys]
  cases h1:hasN κ live
  · exact h
  · cases h2:hasN κ acc
    · have hni:κ ∉ acc:=fun hm=>by rw [(kaZ κ acc).2 hm] at h2;cases h2
      refine ⟨?_,fun κ' hκ=>?_⟩
      · show (acc++[κ]).Nodup
        rw [List.nodup_append]
        refine ⟨h.nodup,by simp,?_⟩
        intro x hx y hy
        simp at hy
        subst hy
        exact fun e=>hni (e▸hx)
      · rcases List.mem_append.1 hκ with h3 | h3
        · exact h.live κ' h3
        · simp at h3
          subst h3
          exact h1
    · exact h
 | .fn f caps,acc,h=>by rw [X.keys];exact X.keysL_ok caps acc h
 | .d _,acc,h=>by rw [X.keys];exact h;all_goals (intros;contradiction)
 | .ptr _ _,acc,h=>by rw [X.keys];exact h;all_goals (intros;contradiction)
 | .nilL _,acc,h=>by rw [X.keys];exact h;all_goals (intros;contradiction)
 | .rptr _ _ _,acc,h=>by rw [X.keys];exact h;all_goals (intros;contradiction)
 | .slf _,acc,h=>by rw [X.keys];exact h;all_goals (intros;contradiction)
theorem X.keysL_ok {live:List Nat}:∀ (xs:List X) (acc:List Nat),KeysOk live acc->KeysOk live (X.keysL live xs acc)
 | [],acc,h=>by rw [X.keysL];exact h
 | x :: xs,acc,h=>by rw [X.keysL];exact X.keysL_ok xs _ (X.keys_ok x acc h)
end
mutual
theorem V.keys_ok {live:List Nat}:∀ (x:V) (acc:List Nat),KeysOk live acc->KeysOk live (x.keys live acc)
 | .one x,acc,h=>by rw [V.keys];exact X.keys_ok x acc h
 | .agg cs,acc,h=>by rw [V.keys];exact X.keysL_ok cs acc h
 | .tup vs,acc,h=>by rw [V.keys];exact V.keysL_ok vs acc h
 | .junk,acc,h=>by rw [V.keys];exact h
theorem V.keysL_ok {live:List Nat}:∀ (xs:List V) (acc:List Nat),KeysOk live acc->KeysOk live (V.keysL live xs acc)
 | [],acc,h=>by rw [V.keysL];exact h
 | x :: xs,acc,h=>by rw [V.keysL];exact V.keysL_ok xs _ (V.keys_ok x acc h)
end
theorem kjA {live:List Nat}:∀ (bs:List (Option Blk)) (acc:List Nat),KeysOk live acc->KeysOk live (kkB live bs acc)
 | [],acc,h=>h
 | some x :: bs,acc,h=>by rw [kkB];exact kjA bs _ (X.keysL_ok x.row acc h)
 | none :: bs,acc,h=>by rw [kkB];exact kjA bs _ h
theorem kkJ (fb fk:Nat->Option Nat) (env:List (Nat × V)) (t:Nat):∀ live:List Nat,look t (renE fb fk live (kgD env live))=(look t env).ren fb fk∨look t (renE fb fk live (kgD env live))=.junk
 | []=>.inr rfl
 | q :: live=>by
  simp only [kgD,renE,look]
  cases hq:Nat.beq q t
  · exact kkJ fb fk env t live
  · have:=Nat.eq_of_beq_eq_true hq
    subst this
    exact .inl rfl
theorem kgf (fb fk:Nat->Option Nat) (heap:List (Nat × Blk)):∀ (ids:List Nat) (k i:Nat) (x:Blk),kaI i (renB fb fk k (kpn heap ids))=some x ->
 k<=i∧∃ b y,ids[i - k]? = some b∧kaI b heap=some y∧x=⟨y.sh,X.renL fb fk y.row⟩
 | [],k,i,x,h=>by cases h
 | b :: ids,k,i,x,h=>by
  unfold kpn at h
  cases hb:kaI b heap with
  | none =>
   rw [hb] at h
   unfold renB at h
   obtain ⟨h1,b',y,h2,h3,h4⟩:=kgf fb fk heap ids (k+1) i x h
   refine ⟨by omega,b',y,?_,h3,h4⟩
   have:i - k=(i - (k+1))+1:=by omega
   rw [this]
   exact h2
  | some y =>
   rw [hb] at h
   unfold renB kaI at h
   cases hq:Nat.beq k i
   · rw [hq] at h
     obtain ⟨h1,b',y',h2,h3,h4⟩:=kgf fb fk heap ids (k+1) i x h
     refine ⟨by omega,b',y',?_,h3,h4⟩
     have:i - k=(i - (k+1))+1:=by omega
     rw [this]
     exact h2
   · rw [hq] at h
     have e:=Nat.eq_of_beq_eq_true hq
     subst e
     cases h
     exact ⟨Nat.le_refl _,b,y,by simp,hb,rfl⟩
theorem kek:∀ (n k i:Nat),i < n->(kbs k n)[i]? = some (k+i)
 | 0,k,i,h=>absurd h (by omega)
 | n+1,k,i,h=>by
  cases i with
  | zero=>rfl
  | succ i =>
   have:=kek n (k+1) i (by omega)
   simp only [kbs,List.getElem?_cons_succ]
   rw [this]
   congr 1
   omega
theorem kgt:∀ (n k:Nat),(kbs k n).Nodup
 | 0,k=>List.nodup_nil
 | n+1,k=>by
  refine List.nodup_cons.2 ⟨fun hm=>?_,kgt n (k+1)⟩
  have:=(kbP k (k+1) n).1 ((kaZ _ _).2 hm)
  omega
theorem kiN:∀ (n k:Nat),(kbs k n).length=n
 | 0,_=>rfl
 | n+1,k=>by rw [kbs,List.length_cons,kiN n (k+1)]
theorem kuD {g:G} {ids ks:List Nat} {xs:List V} {vs:List Value} (h:ka7 g xs vs):ka7 (g.by ids ks) (V.renL (fun b=>idx b ids 0) (fun κ=>idx κ ks 0) xs) vs :=
 RepV.renL (g:=g) (g':=g.by ids ks) _ _ (Ext.refl _ _) (fun b i hi B hB=>by
  show (ids[i]?).bind g.β=_
  rw [kc2 hi]
  exact hB) (fun _ _ h=>h) (fun κ i hi hu=>by
  have e:=kc2 hi
  refine ⟨(List.getElem?_eq_some_iff.1 e).1,fun t ht=>?_⟩
  have ht':(ks[i]?).bind g.gk=some t:=ht
  rw [e] at ht'
  exact ht') xs vs h
theorem by_df {g:G} {ids ks:List Nat} {l:List (FuncId × List V)} {ds:List Deferred} (h:DfR g l ds):DfR (g.by ids ks) (kAx (fun b=>idx b ids 0) (fun κ=>idx κ ks 0) l) ds:=by
 induction h with
 | nil=>exact .nil
 | cons f vs dargs caps r ds h _ ih=>exact .cons f _ dargs caps _ ds (kuD h) ih
section
variable {N:Nat}
theorem klU {g:G} {s:St} {a:Act} (h:Rep N g s.view a) (live:List Nat):∃ g',g'.w=g.w∧Tr s.np g g'∧Rep N g' (s.norm live).view a∧Fresh g' (s.norm live).nb (s.norm live).nk∧(s.norm live).np=s.np∧(∀ ds,DfR g s.dfs ds->DfR g' (s.norm live).dfs ds):=by
 have hn:(V.idsL (kgD s.env live) (kbs 0 s.np)).Nodup:=V.idsL_nodup _ _ (kgt _ _)
 obtain ⟨l,hpre⟩:=V.idsL_pre (kgD s.env live) (kbs 0 s.np)
 have hk:KeysOk s.live (kkB s.live (kpn s.heap (V.idsL (kgD s.env live) (kbs 0 s.np))) (V.keysL s.live (kgD s.env live) [])) :=
  kjA _ _ (V.keysL_ok _ _ ⟨List.nodup_nil,fun κ hκ=>by cases hκ⟩)
 unfold St.norm
 simp only []
 generalize V.idsL (kgD s.env live) (kbs 0 s.np)=ids at *
 generalize kkB s.live (kpn s.heap ids) (V.keysL s.live (kgD s.env live) [])=ks at *
 refine ⟨g.by ids ks,rfl,⟨krd g ids ks,fun i B hi hB=>?_,fun _ _ _ _ _ h=>h⟩,?_,⟨fun i hi=>?_,fun κ hκ hu=>?_⟩,trivial,fun ds hd=>by_df hd⟩
 · show (ids[i]?).bind g.β=_
   rw [hpre,List.getElem?_append_left (by rw [kiN];exact hi),kek _ _ _ hi,Nat.zero_add]
   exact hB
 · exact {
    size:=h.size
    env:=fun t=>by
     show RepV _ (look t (renE _ _ live (kgD s.env live))) _
     rcases kkJ (fun b=>idx b ids 0) (fun κ=>idx κ ks 0) s.env t live with e | e
     · rw [e]
       exact kDJ (h.env t)
     · rw [e]
       exact .junk _
    heap:=fun i x hx=>by
     obtain ⟨_,b,y,hb,hy,rfl⟩:=kgf _ _ s.heap ids 0 i x hx
     rw [Nat.sub_zero] at hb
     obtain ⟨B,hB⟩:=h.heap b y hy
     obtain ⟨cs,T,hc,hx⟩:=hB.cells
     refine ⟨B,?_,⟨cs,T,hc,kre hx⟩,hB.low⟩
     show (ids[i]?).bind g.β=_
     rw [hb]
     exact hB.at_
    inj:=fun i j B hi hj=>by
     have hi':(ids[i]?).bind g.β=some B:=hi
     have hj':(ids[j]?).bind g.β=some B:=hj
     rw [Option.bind_eq_some_iff] at hi' hj'
     obtain ⟨b,h1,h2⟩:=hi'
     obtain ⟨b',h3,h4⟩:=hj'
     have:=h.inj b b' B h2 h4
     subst this
     exact kdS hn h1 h3
    lt:=fun i B hi=>by
     have hi':(ids[i]?).bind g.β=some B:=hi
     rw [Option.bind_eq_some_iff] at hi'
     obtain ⟨b,h1,h2⟩:=hi'
     exact h.lt b B h2
    live:=fun κ hκ=>by
     have hr:=(kbP κ 0 ks.length).1 hκ
     have hlt:κ < ks.length:=by omega
     obtain ⟨e,s',u,hu⟩:=h.live ks[κ] (hk.live _ (List.getElem_mem hlt))
     refine ⟨e,s',u,?_⟩
     show (ks[κ]?).bind g.gk=_
     rw [List.getElem?_eq_getElem hlt]
     exact hu
    own:=fun κ e s' u hu=>by
     have hu':(ks[κ]?).bind g.gk=some (e,s',u):=hu
     rw [Option.bind_eq_some_iff] at hu'
     obtain ⟨q,_,h2⟩:=hu'
     have ho:=h.own q e s' u h2
     refine ⟨ho.row,fun b hb i hi=>?_⟩
     have hi':(ids[i]?).bind g.β=some b:=hi
     rw [Option.bind_eq_some_iff] at hi'
     obtain ⟨q',_,h3⟩:=hi'
     exact ho.no b hb q' h3
    dist:=fun κ κ' e s' u e' s'' u' b hu hu' hb hb'=>by
     have h1:(ks[κ]?).bind g.gk=some (e,s',u):=hu
     have h2:(ks[κ']?).bind g.gk=some (e',s'',u'):=hu'
     rw [Option.bind_eq_some_iff] at h1 h2
     obtain ⟨q,h1,h3⟩:=h1
     obtain ⟨q',h2,h4⟩:=h2
     have:=h.dist q q' _ _ _ _ _ _ b h3 h4 hb hb'
     subst this
     exact kdS hk.nodup h1 h2
    used:=fun κ e s' u hu=>by
     have h1:(ks[κ]?).bind g.gk=some (e,s',u):=hu
     rw [Option.bind_eq_some_iff] at h1
     obtain ⟨q,h1,_⟩:=h1
     exact (List.getElem?_eq_some_iff.1 h1).1
    fresh:=h.fresh }
 · show (ids[i]?).bind g.β=_
   have hi':ids.length<=i:=hi
   rw [List.getElem?_eq_none hi']
   rfl
 · have h1:κ < ks.length:=hu
   have h2:ks.length<=κ:=hκ
   omega
end
end Go.Proofs.YtaphnbaiamnfpaaGreatDoor.Ps
