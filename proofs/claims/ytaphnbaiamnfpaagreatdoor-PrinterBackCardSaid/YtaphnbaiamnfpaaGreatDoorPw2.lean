/- The function that takes up the reader's panic. -/
import Derived.Test.YtaphnbaiamnfpaaGreatDoorPsU
import Derived.Test.YtaphnbaiamnfpaaGreatDoorProg
import Derived.WalkKit
import Derived.Defers
import Derived.Recover
namespace Go.Proofs.YtaphnbaiamnfpaaGreatDoor.Ps
set_option linter.unusedVariables false
set_option linter.unusedSimpArgs false
open Go Go.RowKit Go.Proofs
theorem kuO (v:Value) (w:World) :
 CallsD Tryz.prog 73 #[v] .returning w fun e u' w'=>(∃ x,e=.returned x)∧u'=.returning∧∃ k,w'={ w with drawn:=k }:=by
 refine callsD_of_wpS Tryz.func73 rfl fun c₀ cs hu=>?_
 apply wpS_seq
 apply wpS_region
 simp [wpOpsS,go_sem,recoverD,hu,Tryz.ntmps73,Exit.thenS]
 apply wpS_seq
 apply wpS_region
 show wpOpsS _ _ _ [0,1] _ _ _
 simp [wpOpsS,go_sem,Exit.thenS]
 refine wpS_cond (t:=false) (by simp [Act.eval,Array.replicate]) ?_
 simp only [Bool.false_eq_true,if_false]
 refine wpS_of_wp (wp_skip ?_)
 cases c₀
 simp_all [bodyPostS,results,Tryz.results73,Exit.thenS]
 exact ⟨w.drawn,rfl⟩
theorem kDT (x:Value) (w:World):(Instr.typeAssert (.iface 38 x) 20 38 true).run Tryz.prog w=.ok (.tuple #[x,.bool true]) w:=by kernel_rfl
theorem kuP (w:World) (B:Nat) (cs:Array Value) (T:TypeId) (vs:List Value) (hB:w.heap[B]? = some (.cells cs T (0,0))) (hc4:cs.size=4) (hl:vs.length=4) (hv:∀ v∈vs,v.oneCell'=true) :
 CallsD Tryz.prog 73 #[.pointer (some ⟨B,0,none⟩)] (.panicking [{ v:=.iface 38 (.agg vs.toArray),recovered:=false }]) w fun e u' w'=>(∃ x,e=.returned x)∧Go.settle u'=.returning∧Below (w.setRow B vs.toArray).heap.size (w.setRow B vs.toArray) w':=by
 have hlt:B < w.heap.size:=by
  rcases Nat.lt_or_ge B w.heap.size with h | h
  · exact h
  · rw [Array.getElem?_eq_none h] at hB;cases hB
 obtain ⟨z,hz⟩:∃ z:Array Value,z=#[Value.int IntKind.i64 0,Value.string { data:=#[] },Value.int IntKind.i64 0,Value.int IntKind.i64 0]:=⟨_,rfl⟩
 obtain ⟨W,hst,hW0,hWB⟩:∃ W,Sem.run Tryz.prog (storeCells { block:=w.heap.size,off:=0 } vs) (w.alloc (.cells #[Value.int IntKind.i64 0,Value.string { data:=#[] },Value.int IntKind.i64 0,Value.int IntKind.i64 0] 38))=.ok () W ∧
  W.heap[w.heap.size]? = some (.cells vs.toArray 38 (0,0))∧Below w.heap.size w W:=by
  rw [<- hz]
  have hzs:z.size=4:=by rw [hz];rfl
  have h:=run_storeCells_at Tryz.prog w.heap.size 0 38 vs 0 z (w.alloc (.cells z 38)) (heap_alloc_new _ _) (by omega) hv
  have e:(List.take (0+0) z.toList++vs++List.drop (0+0+vs.length) z.toList).toArray=vs.toArray:=by
   rw [List.drop_eq_nil_of_le (by rw [Array.length_toList];omega)]
   simp
  rw [e] at h
  refine ⟨_,h,setRow_heap _ _ z _ _ _ (heap_alloc_new _ _),rfl,rfl,rfl,by rw [size_setRow,kco];omega,fun k hk=>?_⟩
  rw [setRow_other _ _ _ _ (by omega)]
  exact Below.heap_alloc _ _ _ hk
 obtain ⟨v0,v1,v2,v3,hvs⟩:∃ a b c d,vs=[a,b,c,d]:=by
  match vs,hl with
  | [a,b,c,d],_=>exact ⟨a,b,c,d,rfl⟩
 have hback:#[v0,v1,v2,v3]=vs.toArray:=by rw [hvs]
 have hcell:∀ j v,vs[j]? = some v->W.cell? ⟨w.heap.size,j,none⟩=some v:=fun j v hj=>by
  have hj4:=(List.getElem?_eq_some_iff.1 hj).1
  have:=kft (j:=j) hW0 (by simpa using hj4)
  rw [this]
  simp [List.getD_eq_getElem?_getD,hj]
 have c0:=hcell 0 v0 (by rw [hvs];rfl)
 have c1:=hcell 1 v1 (by rw [hvs];rfl)
 have c2:=hcell 2 v2 (by rw [hvs];rfl)
 have c3:=hcell 3 v3 (by rw [hvs];rfl)
 clear hvs hcell
 obtain ⟨W2,hst2,hW2⟩:∃ W2,Sem.run Tryz.prog (storeCells { block:=B,off:=0 } vs) W=.ok () W2∧W2=W.setRow B vs.toArray:=by
  have h:=run_storeCells_at Tryz.prog B 0 T vs 0 cs W ((hWB.block B hlt).trans hB) (by omega) hv
  have e:(List.take (0+0) cs.toList++vs++List.drop (0+0+vs.length) cs.toList).toArray=vs.toArray:=by
   rw [List.drop_eq_nil_of_le (by rw [Array.length_toList];omega)]
   simp
  rw [e] at h
  exact ⟨_,h,rfl⟩
 have hfin:Below (w.setRow B vs.toArray).heap.size (w.setRow B vs.toArray) W2:=by
  rw [hW2]
  refine ⟨hWB.os,hWB.tape,hWB.output,by rw [size_setRow,size_setRow];exact hWB.size,fun k hk=>?_⟩
  rw [size_setRow] at hk
  by_cases e:k=B
  · subst e
    rw [setRow_heap _ _ cs _ _ _ hB,setRow_heap _ _ cs _ _ _ ((hWB.block k hk).trans hB)]
  · rw [setRow_other _ _ _ _ e,setRow_other _ _ _ _ e,hWB.block k hk]
 refine callsD_of_wpS Tryz.func73 rfl fun c₀ cs hu=>?_
 apply wpS_seq
 apply wpS_region
 simp [wpOpsS,go_sem,recoverD,hu,Tryz.ntmps73,Exit.thenS]
 apply wpS_seq
 apply wpS_region
 show wpOpsS _ _ _ [0,1] _ _ _
 simp [wpOpsS,go_sem,Exit.thenS]
 refine wpS_cond (t:=true) (by simp [Act.eval,Array.replicate]) ?_
 simp only [if_true]
 apply wpS_seq
 apply wpS_region
 show wpOpsS _ _ _ [0,1,2,3,4,5,6,7] _ _ _
 simp [wpOpsS,go_sem,Exit.thenS,kDT,hl,hst]
 apply wpS_seq
 apply wpS_seq
 apply wpS_region
 show wpOpsS _ _ _ [0,1] _ _ _
 simp [wpOpsS,go_sem,Exit.thenS]
 refine wpS_cond (t:=false) (by simp [Act.eval,Array.replicate]) ?_
 simp only [Bool.false_eq_true,if_false]
 refine wpS_of_wp (wp_skip ?_)
 simp only [Exit.thenS]
 apply wpS_region
 show wpOpsS _ _ _ [0,1] _ _ _
 simp [wpOpsS,go_sem,Exit.thenS,hl,c0,c1,c2,c3,hback,hst2]
 rw [size_setRow] at hfin
 cases c₀
 simp_all [bodyPostS,results,Tryz.results73,Exit.thenS]
 rfl
theorem recOk {rc:FuncId->Option TypeId} (h:∀ f t,rc f=some t->f=73∧t=38):RecOk Tryz.prog rc where
 run:=fun f t hf v w=>by
  obtain ⟨rfl,rfl⟩:=h f t hf
  have hF:Tryz.prog.funcs[73]? = some Tryz.f73:=Tryz.func73
  simp [callFunc,Sem.run_bind,run_program,hF]
  rfl
 calm:=fun f t hf v w=>by
  obtain ⟨rfl,rfl⟩:=h f t hf
  exact kuO v w
 take:=fun f t hf w B cs T vs hB hc hl hv=>by
  obtain ⟨rfl,rfl⟩:=h f t hf
  exact kuP w B cs T vs hB hc hl hv
end Go.Proofs.YtaphnbaiamnfpaaGreatDoor.Ps
