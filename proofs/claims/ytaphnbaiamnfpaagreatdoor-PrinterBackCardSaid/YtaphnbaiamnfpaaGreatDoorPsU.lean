/- What a contract of the library says, as a call of the evaluator. -/
import Derived.Test.YtaphnbaiamnfpaaGreatDoorPsT
namespace Go.Proofs.YtaphnbaiamnfpaaGreatDoor.Ps
set_option linter.unusedVariables false
set_option linter.unusedSimpArgs false
open Go Go.RowKit
theorem kpB {w w':World} {b o:Nat} (h:w'.heap[b]? = w.heap[b]?):w'.cell? ⟨b,o,none⟩=w.cell? ⟨b,o,none⟩:=by
 unfold World.cell?
 rw [h]
theorem krG {g:G} (he:Entry g []) {w':World} (hb:Below g.w.heap.size g.w w') {v:Value} {x:V} (hv:RepV { g with w:=w' } x v) :
 OutOk g { g with w:=w' } 0 ⟨true,x,.junk,[],0⟩ (.returned v) where
 step:={
  os:=hb.os
  tape:=hb.tape
  output:=hb.output
  size:=hb.size
  ext:=⟨fun b o ho=>kpB (hb.block b (by
   rcases Nat.lt_or_ge b g.w.heap.size with h | h
   · exact h
   · have:=he.fresh b h
     omega)),fun b=>Nat.le_refl _⟩
  keep:=fun b hlt _=>⟨hb.block b hlt,rfl⟩
  wri:=fun b h=>.inl h }
 lens:=rfl
 rows:=fun i hi=>absurd hi (by omega)
 fresh:=fun b h=>he.fresh b (Nat.le_trans hb.size h)
 ok:=fun _=>⟨v,rfl,hv⟩
 pan:=fun h=>by cases h
 β:=fun i hi=>absurd hi (by omega)
 alive:=fun κ h=>absurd h (by simp)
 ty:=fun i B T hi=>absurd hi (by omega)
 own:=fun κ e s u h=>by rw [he.none κ] at h;cases h
 new:=fun κ e s u b h=>by rw [he.none κ] at h;cases h
 dist:=fun κ κ' e s u e' s' u' b h=>by rw [he.none κ] at h;cases h
theorem knG {P:Program} {w0:World} {f:FuncId} {args:List V} {x:V} (hrun:∀ (us:List Value) (w:World),(callFunc f us.toArray).run P w=.ok (.enter f us.toArray) w)
 (hc:∀ (g:G) (us:List Value),Since w0 g->Entry g []->ka7 g args us->Calls P f us.toArray g.w fun e w'=>∃ v,e=.returned v∧Below g.w.heap.size g.w w'∧RepV { g with w:=w' } x v) :
 kdT P w0 f args [] ⟨true,x,.junk,[],0⟩:=by
 intro g us hs he hv
 refine ⟨fun w=>hrun us w,(hc g us hs he hv).mono ?_⟩
 rintro e w' ⟨v,rfl,hb,hr⟩
 exact ⟨_,rfl,krG he hb hr⟩
end Go.Proofs.YtaphnbaiamnfpaaGreatDoor.Ps
