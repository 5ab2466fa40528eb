/- The operations that read memory, make it or write it. -/
import Derived.Test.YtaphnbaiamnfpaaGreatDoorPsG
namespace Go.Proofs.YtaphnbaiamnfpaaGreatDoor.Ps
set_option linter.unusedVariables false
set_option linter.unusedSimpArgs false
open Go Go.RowKit
theorem kcz (b o n:Nat):(⟨b,o,none⟩:Addr).add n=⟨b,o+n,none⟩:=by
 unfold Addr.add
 split
 · rename_i h;subst h;rfl
 · rfl
section
variable {P:Program} {o:Oper} {a:Act} {N:Nat} {g:G} {vw:View}
theorem kkC (w:World) (e:TypeId) (i:TypeInfo) (z:Value) (hi:P.info? e=some i) (hz:i.zero=some z):(Instr.alloc e true (.tuple #[])).run P w=.ok (.pointer (some ⟨w.heap.size,0,none⟩)) (w.alloc (.cells z.cells e)):=by
 simp only [Instr.alloc,zeroValue,typeInfo,program,newVar,newRow,newObj,Sem.run_bind,Sem.run,hi,hz,Result.andThen_ok,Bind.bind,Sem.bind,Pure.pure]
 rfl
theorem kur (h:Rep N g vw a) {nb:Nat} (hn:g.β nb=none) {e:TypeId} (ho:o.op=.alloc e) (sh:List Lf) {row:List X} (hr:zrow P e=some row) :
 OpOk P o a g (.inl ⟨.one (.ptr nb 0),[(nb,⟨sh,row⟩)],[],[]⟩):=by
 obtain ⟨i,z,hi,hz,hrow⟩:=kns (g:=g) hr
 intro K Q hK
 refine kdl (v:=.pointer (some ⟨g.w.heap.size,0,none⟩)) ?_ (hK _ _ (RepP.alloc h nb hn sh row z.cells e hrow))
 simp only [execOp,ho]
 rw [Sem.run_bind,kkC g.w e i z hi hz]
 rfl
theorem kDG (h:Rep N g vw a) {nb:Nat} (hn:g.β nb=none) {e:TypeId} {x:Operand} (ho:o.op=.box e x) (sh:List Lf) {cs:List X} (hx:kaR g cs (a.eval x).cells.toList) :
 OpOk P o a g (.inl ⟨.one (.ptr nb 0),[(nb,⟨sh,cs⟩)],[],[]⟩):=by
 intro K Q hK
 refine kdl (v:=.pointer (some ⟨g.w.heap.size,0,none⟩)) ?_ (hK _ _ (RepP.alloc h nb hn sh cs (a.eval x).cells e hx))
 simp only [execOp,ho]
 simp only [Instr.box,newVar,newRow,newObj,Sem.run_bind,Sem.run,Result.andThen_ok,Bind.bind,Sem.bind,Pure.pure]
 rfl
theorem kf3 {w:World} {t:TypeId} {i:TypeInfo} {d:TypeDesc} {b o':Nat} {vs:List Value} (hi:P.info? t=some i) (hd:P.underlying t=some d) (hl:vs.length=i.size)
 (hc:∀ j v,vs[j]? = some v->w.cell? ⟨b,o'+j,none⟩=some v) (hag:isAg d=true):(Instr.loadAt t (.pointer (some ⟨b,o',none⟩))).run P w=.ok (.agg vs.toArray) w:=by
 have hls:=run_loadCells_list (P:=P) w ⟨b,o',none⟩ vs (fun j v hv=>by rw [kcz];exact hc j v hv)
 have hagg:(isAgg t).run P w=.ok true w:=by
  unfold isAgg
  rw [Sem.run_bind,run_underlying hd w]
  cases d<;>simp_all [isAg]
 rw [hl] at hls
 simp [Instr.loadAt,Instr.sureAddr,loadVar,Sem.run_bind,hagg,sizeOf,typeInfo,hi,hls]
theorem keW {w:World} {t:TypeId} {d:TypeDesc} {b o':Nat} {v:Value} (hd:P.underlying t=some d)
 (hc:w.cell? ⟨b,o',none⟩=some v) (hag:isAg d=false):(Instr.loadAt t (.pointer (some ⟨b,o',none⟩))).run P w=.ok v w:=by
 have hagg:(isAgg t).run P w=.ok false w:=by
  unfold isAgg
  rw [Sem.run_bind,run_underlying hd w]
  cases d<;>simp_all [isAg]
 simp [Instr.loadAt,Instr.sureAddr,loadVar,Sem.run_bind,hagg,load]
 simp only [Sem.run,hc]
theorem kft {w:World} {B:Nat} {cs:Array Value} {T:TypeId} (hB:w.heap[B]? = some (.cells cs T (0,0))) {j:Nat} (hj:j < cs.size):w.cell? ⟨B,j,none⟩=some (cs.toList.getD j undef):=by
 rw [cell_of_row w B j cs T (0,0) hB,List.getD_eq_getElem?_getD,Array.getElem?_toList,getElem?_pos cs j hj]
 rfl
theorem kq9 (h:Rep N g vw a) {t:TypeId} {x:Operand} (ho:o.op=.load t x) {i:TypeInfo} {d:TypeDesc} (hi:P.info? t=some i) (hd:P.underlying t=some d) (hag:isAg d=true)
 {b off:Nat} (hx:RepV g (.one (.ptr b off)) (a.eval x)) {blk:Blk} (hb:vw.heap b=some blk) (hl:off+i.size<=blk.row.length) :
 OpOk P o a g (.inl ⟨.agg ((blk.row.drop off).take i.size),[],[],[]⟩):=by
 obtain ⟨B,hB,e⟩:=hx.ptr_eq
 obtain ⟨B',hr⟩:=h.heap b blk hb
 have:B'=B:=by have:=hr.at_;rw [hB] at this;cases this;rfl
 subst this
 obtain ⟨cs,T,hc,hx⟩:=hr.cells
 have hsz:cs.size=blk.row.length:=by simpa using hx.1
 have hh:=(hx.drop off).take i.size
 have hlen:((cs.toList.drop off).take i.size).length=i.size:=by rw [List.length_take,List.length_drop,Array.length_toList];omega
 refine OpOk.pure h (v:=.agg ((cs.toList.drop off).take i.size).toArray) ?_ (.agg _ _ hh.1 hh.2)
 simp only [execOp,ho,e]
 rw [Sem.run_bind,kf3 hi hd hlen (fun j v hv=>?_) hag]
 · rfl
 · rw [List.getElem?_take] at hv
   split at hv
   · rw [List.getElem?_drop] at hv
     have hlt:off+j < cs.size:=by
      have:=(List.getElem?_eq_some_iff.1 hv).1
      simpa using this
     rw [kft hc hlt,List.getD_eq_getElem?_getD,hv]
     rfl
   · cases hv
theorem kpp (h:Rep N g vw a) {t:TypeId} {x:Operand} (ho:o.op=.load t x) {d:TypeDesc} (hd:P.underlying t=some d) (hag:isAg d=false)
 {b off:Nat} (hx:RepV g (.one (.ptr b off)) (a.eval x)) {blk:Blk} (hb:vw.heap b=some blk) (hl:off < blk.row.length) :
 OpOk P o a g (.inl ⟨.one (blk.row.getD off (.d .junk)),[],[],[]⟩):=by
 obtain ⟨B,hB,e⟩:=hx.ptr_eq
 obtain ⟨B',hr⟩:=h.heap b blk hb
 have:B'=B:=by have:=hr.at_;rw [hB] at this;cases this;rfl
 subst this
 obtain ⟨cs,T,hc,hx⟩:=hr.cells
 have hsz:cs.size=blk.row.length:=by simpa using hx.1
 refine OpOk.pure h (v:=cs.toList.getD off undef) ?_ (.one _ _ (hx.2 off hl))
 simp only [execOp,ho,e]
 rw [Sem.run_bind,keW hd (kft hc (by omega)) hag]
 rfl
theorem kiz {row:List D} {b o' sz:Nat} {vs:Nat->Value} (hrep:∀ j,j < sz->RepD g.w g.φ (dat row j) (vs j)):∀ (n off:Nat),off+n<=sz->kaR g (rcells row off n) ((List.range' off n).map vs)
 | 0,off,_=>.nil g
 | n+1,off,h=>by
  rw [List.range'_succ,List.map_cons]
  exact .cons (.d _ _ (hrep off (by omega))) (kiz (b:=b) (o':=o') hrep n (off+1) (by omega))
theorem RepV.rptr_eq {g:G} {sz:Nat} {row:List D} {off:Nat} {u:Value} (h:RepV g (.one (.rptr sz row off)) u) :
 ∃ (b o':Nat) (vs:Nat->Value),u=.pointer (some ⟨b,o'+off,none⟩)∧o'+sz<=g.φ b∧(∀ j,j < sz->g.w.cell? ⟨b,o'+j,none⟩=some (vs j))∧(∀ j,j < sz->(vs j).oneCell'=true)∧(∀ j,j < sz->RepD g.w g.φ (dat row j) (vs j)):=by
 cases h with
 | one _ _ h =>
  cases h with
  | rptr _ _ b o' _ vs h1 h2 h3 h4=>exact ⟨b,o',vs,rfl,h1,h2,h3,h4⟩
theorem kra (h:Rep N g vw a) {t:TypeId} {x:Operand} (ho:o.op=.load t x) {i:TypeInfo} {d:TypeDesc} (hi:P.info? t=some i) (hd:P.underlying t=some d) (hag:isAg d=true)
 {sz:Nat} {row:List D} {off:Nat} (hx:RepV g (.one (.rptr sz row off)) (a.eval x)) (hl:off+i.size<=sz) :
 OpOk P o a g (.inl ⟨.agg (rcells row off i.size),[],[],[]⟩):=by
 obtain ⟨b,o',vs,e,h1,h2,h3,h4⟩:=hx.rptr_eq
 have hh:=kiz (g:=g) (b:=b) (o':=o') h4 i.size off hl
 refine OpOk.pure h (v:=.agg ((List.range' off i.size).map vs).toArray) ?_ (.agg _ _ hh.1 hh.2)
 simp only [execOp,ho,e]
 rw [Sem.run_bind,kf3 (vs:=(List.range' off i.size).map vs) hi hd (by simp) (fun j v hv=>?_) hag]
 · rfl
 · rw [List.getElem?_map] at hv
   by_cases hj:j < i.size
   · rw [List.getElem?_range' hj] at hv
     simp only [Option.map_some,Option.some.injEq] at hv
     subst hv
     rw [Nat.add_assoc,h2 (off+j) (by omega)]
     simp
   · rw [List.getElem?_eq_none (by simpa using hj)] at hv
     cases hv
theorem kpq (h:Rep N g vw a) {t:TypeId} {x:Operand} (ho:o.op=.load t x) {d:TypeDesc} (hd:P.underlying t=some d) (hag:isAg d=false)
 {sz:Nat} {row:List D} {off:Nat} (hx:RepV g (.one (.rptr sz row off)) (a.eval x)) (hl:off < sz) :
 OpOk P o a g (.inl ⟨dv (dat row off),[],[],[]⟩):=by
 obtain ⟨b,o',vs,e,h1,h2,h3,h4⟩:=hx.rptr_eq
 refine OpOk.pure h (v:=vs off) ?_ (.of_d (h4 off hl))
 simp only [execOp,ho,e]
 rw [Sem.run_bind,keW hd (h2 off hl) hag]
 rfl
theorem kus (h:Rep N g vw a) {t:TypeId} {x y:Operand} (ho:o.op=.store t x y) {i:TypeInfo} (hi:P.info? t=some i)
 {b off:Nat} (hx:RepV g (.one (.ptr b off)) (a.eval x)) {blk:Blk} (hb:vw.heap b=some blk) {cs:List X} (hy:kaR g cs (a.eval y).cells.toList) (hn:cs.length=i.size) (hl:off+i.size<=blk.row.length) :
 OpOk P o a g (.inl ⟨.junk,[(b,⟨blk.sh,kee blk.row off cs⟩)],[],[]⟩):=by
 obtain ⟨B,hB,e⟩:=hx.ptr_eq
 obtain ⟨B',hr⟩:=h.heap b blk hb
 have:B'=B:=by have:=hr.at_;rw [hB] at this;cases this;rfl
 subst this
 obtain ⟨old,T,hc,hx⟩:=hr.cells
 have hsz:old.size=blk.row.length:=by simpa using hx.1
 have hput:=hx.put hy off
 have hvl:(a.eval y).cells.toList.length=i.size:=by rw [hy.1,hn]
 intro K Q hK
 refine kuq ?_ (hK _ _ (RepP.store h b B' hB old T hc hr.low blk.sh (kee blk.row off cs) _ (by simpa using hput) undef))
 have hst:=run_storeCells_at P B' off T (a.eval y).cells.toList 0 old g.w hc (by rw [hvl];omega) hy.one
 simp only [Nat.add_zero] at hst
 simp only [execOp,ho,e]
 have hvs:(a.eval y).cells.size=i.size:=by simpa using hvl
 rw [Sem.run_bind]
 have hs2:(sizeOf t).run P g.w=.ok i.size g.w:=by simp [sizeOf,typeInfo,hi]
 simp [Instr.storeAt,Instr.sureAddr,storeVar,hs2,hvs,hst,G.store]
end
end Go.Proofs.YtaphnbaiamnfpaaGreatDoor.Ps
