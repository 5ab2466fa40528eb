/- Addresses, structs put together, lists made and appended to. -/
import Derived.Test.YtaphnbaiamnfpaaGreatDoorPsH
namespace Go.Proofs.YtaphnbaiamnfpaaGreatDoor.Ps
set_option linter.unusedVariables false
set_option linter.unusedSimpArgs false
open Go Go.RowKit
section
variable {P:Program} {o:Oper} {a:Act} {N:Nat} {g:G} {vw:View}
theorem khB {w:World} {s:TypeId} {fs:Array Field} {i:Nat} {f:Field} {ti:TypeInfo} (hs:P.underlying s=some (.struct fs)) (hf:fs[i]? = some f) (hi:P.info? f.type=some ti) (hz:ti.size ≠ 0) (b o':Nat) :
 (Instr.fieldAt s (.pointer (some ⟨b,o',none⟩)) i).run P w=.ok (.pointer (some ⟨b,o'+f.offset,none⟩)) w:=by
 have e:(sizeOf f.type).run P w=.ok ti.size w:=by simp [sizeOf,typeInfo,hi]
 simp [Instr.fieldAt,run_underlying hs,hf,Instr.sureAddr,fieldPlace,e,hz,kcz]
theorem kpr (h:Rep N g vw a) {s:TypeId} {x:Operand} {i:Nat} (ho:o.op=.fieldAddr s x i) {fs:Array Field} {f:Field} {ti:TypeInfo} (hs:P.underlying s=some (.struct fs)) (hf:fs[i]? = some f) (hi:P.info? f.type=some ti) (hz:ti.size ≠ 0)
 {b off:Nat} (hx:RepV g (.one (.ptr b off)) (a.eval x)):OpOk P o a g (.inl ⟨.one (.ptr b (off+f.offset)),[],[],[]⟩):=by
 obtain ⟨B,hB,e⟩:=hx.ptr_eq
 refine OpOk.pure h (v:=.pointer (some ⟨B,off+f.offset,none⟩)) ?_ (.one _ _ (.ptr _ _ _ hB))
 simp only [execOp,ho,e]
 rw [Sem.run_bind,khB hs hf hi hz]
 rfl
theorem kps (h:Rep N g vw a) {s:TypeId} {x:Operand} {i:Nat} (ho:o.op=.fieldAddr s x i) {fs:Array Field} {f:Field} {ti:TypeInfo} (hs:P.underlying s=some (.struct fs)) (hf:fs[i]? = some f) (hi:P.info? f.type=some ti) (hz:ti.size ≠ 0)
 {sz:Nat} {row:List D} {off:Nat} (hx:RepV g (.one (.rptr sz row off)) (a.eval x)):OpOk P o a g (.inl ⟨.one (.rptr sz row (off+f.offset)),[],[],[]⟩):=by
 obtain ⟨b,o',vs,e,h1,h2,h3,h4⟩:=hx.rptr_eq
 refine OpOk.pure h (v:=.pointer (some ⟨b,o'+off+f.offset,none⟩)) ?_ (.one _ _ (by rw [Nat.add_assoc];exact .rptr sz row b o' _ vs h1 h2 h3 h4))
 simp only [execOp,ho,e]
 rw [Sem.run_bind,khB hs hf hi hz]
 rfl
theorem kut (h:Rep N g vw a) {s:TypeId} {x:Operand} {i:Nat} (ho:o.op=.field s x i) {fs:Array Field} {f:Field} {ti:TypeInfo} {d:TypeDesc} (hs:P.underlying s=some (.struct fs)) (hf:fs[i]? = some f) (hi:P.info? f.type=some ti)
 (hd:P.underlying f.type=some d) (hag:isAg d=true) {cs:List X} (hx:RepV g (.agg cs) (a.eval x)) (hl:f.offset+ti.size<=cs.length):OpOk P o a g (.inl ⟨.agg ((cs.drop f.offset).take ti.size),[],[],[]⟩):=by
 generalize he:a.eval x=v at hx
 cases hx with
 | agg _ us hlen hr =>
  have hh:=(kaR.drop ⟨hlen,hr⟩ f.offset).take ti.size
  refine OpOk.pure h (v:=.agg ((us.drop f.offset).take ti.size).toArray) ?_ (.agg _ _ hh.1 hh.2)
  have hagg:(isAgg f.type).run P g.w=.ok true g.w:=by
   unfold isAgg
   rw [Sem.run_bind,run_underlying hd]
   cases d<;>simp_all [isAg]
  have e:(sizeOf f.type).run P g.w=.ok ti.size g.w:=by simp [sizeOf,typeInfo,hi]
  have ex:us.toArray.extract f.offset (f.offset+ti.size)=((us.drop f.offset).take ti.size).toArray:=by
   rw [List.extract_toArray,List.extract_eq_take_drop,Nat.add_sub_cancel_left]
  simp [execOp,ho,he,Instr.field,run_underlying hs,hf,part,hagg,e,asAgg,ex]
theorem krb (h:Rep N g vw a) {s:TypeId} {x:Operand} {i:Nat} (ho:o.op=.field s x i) {fs:Array Field} {f:Field} {d:TypeDesc} (hs:P.underlying s=some (.struct fs)) (hf:fs[i]? = some f)
 (hd:P.underlying f.type=some d) (hag:isAg d=false) {cs:List X} (hx:RepV g (.agg cs) (a.eval x)) (hl:f.offset < cs.length):OpOk P o a g (.inl ⟨.one (cs.getD f.offset (.d .junk)),[],[],[]⟩):=by
 generalize he:a.eval x=v at hx
 cases hx with
 | agg _ us hlen hr =>
  refine OpOk.pure h (v:=us.getD f.offset undef) ?_ (.one _ _ (hr _ hl))
  have hagg:(isAgg f.type).run P g.w=.ok false g.w:=by
   unfold isAgg
   rw [Sem.run_bind,run_underlying hd]
   cases d<;>simp_all [isAg]
  have e:us[f.offset]? = some (us.getD f.offset undef):=by
   rw [List.getD_eq_getElem?_getD,List.getElem?_eq_getElem (by omega)]
   rfl
  generalize us.getD f.offset undef=u at *
  simp only [execOp,ho,he]
  rw [Sem.run_bind]
  have e2:(Instr.field s (.agg us.toArray) i).run P g.w=.ok u g.w:=by
   simp [Instr.field,run_underlying hs,hf,part,hagg,asAgg,e]
  rw [e2]
  rfl
theorem kuu (h:Rep N g vw a) {t e:TypeId} {x i:Operand} (ho:o.op=.indexAddr t x i) {ti:TypeInfo} (ht:P.underlying t=some (.slice e)) (hi:P.info? e=some ti) {rows:List (List D)} {n:Int}
 (hx:RepD g.w g.φ (.list ti.size rows) (a.eval x)) (hn:a.eval i=.int .i64 n) (h0:0<=n) (h1:n < (rows.length:Int)):OpOk P o a g (.inl ⟨.one (.rptr ti.size (rows.getD n.toNat []) 0),[],[],[]⟩):=by
 generalize he:a.eval x=v at hx
 cases hx with
 | nil=>simp at h1;omega
 | list _ _ b off c vs hc hb hcell hone hrep =>
  have hlt:n.toNat < rows.length:=by omega
  refine OpOk.pure h (v:=.pointer (some ⟨b,off+n.toNat*ti.size+0,none⟩)) ?_ (.one _ _ (.rptr ti.size _ b (off+n.toNat*ti.size) 0 (vs n.toNat) ?_ ?_ (fun j hj=>hone _ j hlt hj) (fun j hj=>hrep _ j hlt hj)))
  · have e2:(sizeOf e).run P g.w=.ok ti.size g.w:=by simp [sizeOf,typeInfo,hi]
    simp [execOp,ho,he,hn,Instr.indexAt,run_underlying ht,asIntOf,h0,h1,e2,kcz]
  · have h5:(n.toNat+1)*ti.size<=rows.length*ti.size:=Nat.mul_le_mul_right _ hlt
    rw [Nat.add_mul,Nat.one_mul] at h5
    omega
  · intro j hj
    rw [Nat.add_assoc]
    exact hcell _ j hlt hj
theorem kpt (h:Rep N g vw a) {t e:TypeId} {x i:Operand} (ho:o.op=.indexAddr t x i) {ti:TypeInfo} {len:Nat} (ht:P.underlying t=some (.array len e)) (hi:P.info? e=some ti) {n:Int}
 {b off:Nat} (hx:RepV g (.one (.ptr b off)) (a.eval x)) (hn:a.eval i=.int .i64 n) (h0:0<=n) (h1:n < (len:Int)):OpOk P o a g (.inl ⟨.one (.ptr b (off+n.toNat*ti.size)),[],[],[]⟩):=by
 obtain ⟨B,hB,he⟩:=hx.ptr_eq
 refine OpOk.pure h (v:=.pointer (some ⟨B,off+n.toNat*ti.size,none⟩)) ?_ (.one _ _ (.ptr _ _ _ hB))
 have e2:(sizeOf e).run P g.w=.ok ti.size g.w:=by simp [sizeOf,typeInfo,hi]
 simp [execOp,ho,he,hn,Instr.indexAt,run_underlying ht,asIntOf,Instr.sureAddr,h0,h1,e2,kcz]
theorem kpu (h:Rep N g vw a) {t e:TypeId} {x i:Operand} (ho:o.op=.indexAddr t x i) {ti:TypeInfo} {len:Nat} (ht:P.underlying t=some (.array len e)) (hi:P.info? e=some ti) {n:Int}
 {sz:Nat} {row:List D} {off:Nat} (hx:RepV g (.one (.rptr sz row off)) (a.eval x)) (hn:a.eval i=.int .i64 n) (h0:0<=n) (h1:n < (len:Int)):OpOk P o a g (.inl ⟨.one (.rptr sz row (off+n.toNat*ti.size)),[],[],[]⟩):=by
 obtain ⟨b,o',vs,he,g1,g2,g3,g4⟩:=hx.rptr_eq
 refine OpOk.pure h (v:=.pointer (some ⟨b,o'+off+n.toNat*ti.size,none⟩)) ?_ (.one _ _ (by rw [Nat.add_assoc];exact .rptr sz row b o' _ vs g1 g2 g3 g4))
 have e2:(sizeOf e).run P g.w=.ok ti.size g.w:=by simp [sizeOf,typeInfo,hi]
 simp [execOp,ho,he,hn,Instr.indexAt,run_underlying ht,asIntOf,Instr.sureAddr,h0,h1,e2,kcz]
theorem kiA (us:List Value):∀ (k off:Nat) (vs:List Value),off+k+us.length<=vs.length ->
 ((us.zipIdx k).foldl (fun (cs:Array Value) (x:Value × Nat)=>cs.setIfInBounds (off+x.2) x.1) vs.toArray)=(vs.take (off+k)++us++vs.drop (off+k+us.length)).toArray:=by
 induction us with
 | nil=>intro k off vs _;simp
 | cons u us ih =>
  intro k off vs h
  simp only [List.length_cons] at h
  rw [List.zipIdx_cons,List.foldl_cons,List.setIfInBounds_toArray,ih (k+1) off (vs.set (off+k) u) (by rw [List.length_set];omega)]
  have e:=list_seg_step vs (off+k) u us (by omega)
  rw [List.length_cons,<- e]
  simp [Nat.add_assoc]
def kkD (P:Program) (fs:Array Field):List (Nat × Operand)->Option (List (Nat × Nat × SArg))
 | []=>some []
 | (i,x) :: r =>
  match fs[i]? with
  | some f=>match P.info? f.type,arg P f.type x,kkD P fs r with
   | some ti,some y,some ys=>some ((f.offset,ti.size,y) :: ys)
   | _,_,_=>none
  | none=>none
theorem kiB (h:Rep N g vw a) {fs:Array Field} {places:List (Nat × Nat)} (hp:fs.toList.mapM (fun (f:Field)=>(P.info? f.type).map fun i=>(f.offset,i.size))=some places) {α:Type} {r:α}:∀ (parts:List (Nat × Operand)) (sp:List (Nat × Nat × SArg)),kkD P fs parts=some sp ->
 ∀ (cs:List X) (vs:List Value) (K:List X->Option α),kaR g cs vs->kdB vw.env sp cs K=some r ->
 ∃ cs' vs',K cs'=some r∧kaR g cs' vs'∧Instr.fill (places.toArray[·]?) vs.toArray (parts.map fun x=>(x.1,a.eval x.2))=some vs'.toArray
 | [],sp,hs,cs,vs,K,hr,hk=>by
  cases hs
  exact ⟨cs,vs,hk,hr,rfl⟩
 | (i,x) :: rest,sp,hs,cs,vs,K,hr,hk=>by
  unfold kkD at hs
  split at hs
  · rename_i f hf
    split at hs
    · rename_i ti y ys hti hy hys
      cases hs
      unfold kdB at hk
      obtain ⟨p,hk,hpv⟩:=kb4 hk
      obtain ⟨hc,hk⟩:=kac hk
      simp only [Bool.and_eq_true] at hc
      have hc1:=Nat.eq_of_beq_eq_true hc.1
      have hc2:=Nat.le_of_ble_eq_true hc.2
      have hpr:=V.cells_rep hpv (kaT h hy)
      have hput:=hr.put hpr f.offset
      obtain ⟨cs',vs',h1,h2,h3⟩:=kiB h hp rest ys hys _ _ K hput hk
      refine ⟨cs',vs',h1,h2,?_⟩
      have hplace:(places.toArray[i]?:Option (Nat × Nat))=some (f.offset,ti.size):=by
       have hlen:∀ (l:List Field) (ps:List (Nat × Nat)),l.mapM (fun (f:Field)=>(P.info? f.type).map fun i=>(f.offset,i.size))=some ps->∀ (i:Nat) (f:Field),l[i]? = some f->∀ ti,P.info? f.type=some ti->ps[i]? = some (f.offset,ti.size):=by
        intro l
        induction l with
        | nil=>intro ps _ i f hf;simp at hf
        | cons q l ih =>
         intro ps hm i f hf ti hti
         simp only [List.mapM_cons,Option.bind_eq_bind,Option.pure_def] at hm
         cases hq:P.info? q.type with
         | none=>simp [hq] at hm
         | some tq =>
          cases hl:l.mapM (fun (f:Field)=>(P.info? f.type).map fun i=>(f.offset,i.size)) with
          | none=>simp [hq,hl] at hm
          | some ps' =>
           simp [hq,hl] at hm
           subst hm
           cases i with
           | zero =>
            simp at hf
            subst hf
            rw [hq] at hti
            cases hti
            rfl
           | succ i=>simpa using ih ps' hl i f (by simpa using hf) ti hti
       simpa using hlen fs.toList places hp i f (by simpa using hf) ti hti
      have hsz:(a.eval x).cells.size=ti.size:=by
       have:=hpr.1
       simp only [Array.length_toList] at this
       omega
      have hvl:vs.length=cs.length:=hr.1
      simp only [List.map_cons,Instr.fill,hplace]
      rw [if_neg (by simp [hsz];omega)]
      have hfc:=kiA (a.eval x).cells.toList 0 f.offset vs (by simp [hsz];omega)
      have harr:((a.eval x).cells.zipIdx.foldl (fun (cs:Array Value) (x:Value × Nat)=>cs.setIfInBounds (f.offset+x.2) x.1) vs.toArray)=(vs.take f.offset++(a.eval x).cells.toList++vs.drop (f.offset+(a.eval x).cells.toList.length)).toArray:=by
       simp only [Nat.add_zero] at hfc
       rw [<- hfc]
       rw [<- Array.foldl_toList,Array.toList_zipIdx]
      exact (congrArg (fun q=>Instr.fill (places.toArray[·]?) q (rest.map fun x=>(x.1,a.eval x.2))) harr).trans h3
    · cases hs
  · cases hs
theorem kuv (h:Rep N g vw a) {t:TypeId} {parts:Array (Nat × Operand)} (ho:o.op=.build t parts) {fs:Array Field} (ht:P.underlying t=some (.struct fs)) {zr:List X} (hz:zrow P t=some zr)
 {places:List (Nat × Nat)} (hp:fs.toList.mapM (fun (f:Field)=>(P.info? f.type).map fun i=>(f.offset,i.size))=some places) {sp:List (Nat × Nat × SArg)} (hs:kkD P fs parts.toList=some sp) {cs:List X}
 (hk:kdB (α:=List X) vw.env sp zr some=some cs):OpOk P o a g (.inl ⟨.agg cs,[],[],[]⟩):=by
 obtain ⟨i,z,hi,hzz,hzr⟩:=kns (g:=g) hz
 obtain ⟨cs',vs',h1,h2,h3⟩:=kiB h hp parts.toList sp hs zr z.cells.toList some hzr hk
 cases h1
 refine OpOk.pure h (v:=.agg vs'.toArray) ?_ (.agg _ _ h2.1 h2.2)
 simp only [execOp,ho]
 rw [Sem.run_bind,run_build g.w t _ vs'.toArray ?_]
 · rfl
 · unfold Program.built
   simp only [hi,ht,hzz,hp]
   simpa using h3
theorem RepD.of_owned {w:World} {φ:Nat->Nat} {e sz:Nat} {v:Value} {rows:List (List D)} {xs:List Value} (h:w.ownsRow 0 e sz v rows.length xs) (hφ:∀ b,v.ownBlock=some b->rows.length*sz<=φ b)
 (hr:∀ i j,i < rows.length->j < sz->∃ u,xs[i*sz+j]? = some u∧u.oneCell'=true∧RepD w φ (dat (rows.getD i []) j) u):RepD w φ (.list sz rows) v:=by
 have hcells:∀ b,v.ownBlock=some b->∀ j u,xs[j]? = some u->w.cell? ((⟨b,0,none⟩:Addr).add j)=some u:=fun b hb=>h.cells hb
 obtain ⟨hl,hn⟩:=h
 rcases hn with ⟨rfl,hn⟩ | ⟨b,cap,cur,rfl,_,hb,hc,hm,hs,ht⟩
 · have:rows=[]:=List.eq_nil_of_length_eq_zero hn
   subst this
   exact .nil sz none 0
 · refine .list sz rows b 0 cap (fun i j=>xs.getD (i*sz+j) undef) hc (by have:=hφ b rfl;omega) (fun i j hi hj=>?_) (fun i j hi hj=>?_) (fun i j hi hj=>?_)
   · obtain ⟨u,hu,_⟩:=hr i j hi hj
     have:=hcells b rfl (i*sz+j) u hu
     rw [kcz] at this
     rw [this,List.getD_eq_getElem?_getD,hu]
     rfl
   · obtain ⟨u,hu,h1,_⟩:=hr i j hi hj
     have e:xs.getD (i*sz+j) undef=u:=by rw [List.getD_eq_getElem?_getD,hu];rfl
     rw [e]
     exact h1
   · obtain ⟨u,hu,_,h2⟩:=hr i j hi hj
     have e:xs.getD (i*sz+j) undef=u:=by rw [List.getD_eq_getElem?_getD,hu];rfl
     rw [e]
     exact h2
theorem kdC {α:Type} (xs ys:List α) (d:α) (i:Nat) (h:i < xs.length):(xs++ys).getD i d=xs.getD i d:=by
 rw [List.getD_eq_getElem?_getD,List.getD_eq_getElem?_getD,List.getElem?_append_left h]
theorem kdb {α:Type} (xs ys:List α) (d:α) (i:Nat) (h:xs.length<=i):(xs++ys).getD i d=ys.getD (i - xs.length) d:=by
 rw [List.getD_eq_getElem?_getD,List.getD_eq_getElem?_getD,List.getElem?_append_right h]
theorem RepD.cells_of {w:World} {φ:Nat->Nat} {sz:Nat} {rows:List (List D)} {v:Value} (h:RepD w φ (.list sz rows) v) (hne:rows ≠ []) (hz:0 < sz) :
 ∃ (b off c:Nat) (news:List Value),v=.slice (some ⟨b,off,none⟩) rows.length c∧news.length=rows.length*sz∧off+rows.length*sz<=φ b∧(∀ j u,news[j]? = some u->w.cell? ⟨b,off+j,none⟩=some u)∧(∀ u∈news,u.oneCell'=true) ∧
  ∀ i j,i < rows.length->j < sz->∃ u,news[i*sz+j]? = some u∧u.oneCell'=true∧RepD w φ (dat (rows.getD i []) j) u:=by
 cases h with
 | nil=>exact absurd rfl hne
 | list _ _ b off c vs hc hb hcell hone hrep =>
  have hq:∀ q,q < rows.length*sz->q / sz < rows.length∧q % sz < sz∧q / sz*sz+q % sz=q:=fun q hq =>
   ⟨(Nat.div_lt_iff_lt_mul hz).2 hq,Nat.mod_lt _ hz,by rw [Nat.mul_comm];exact Nat.div_add_mod q sz⟩
  refine ⟨b,off,c,(List.range (rows.length*sz)).map fun q=>vs (q / sz) (q % sz),rfl,by simp,hb,fun j u hu=>?_,fun u hu=>?_,fun i j hi hj=>?_⟩
  · rw [List.getElem?_map] at hu
    by_cases hj:j < rows.length*sz
    · rw [List.getElem?_range hj] at hu
      simp only [Option.map_some,Option.some.injEq] at hu
      obtain ⟨h1,h2,h3⟩:=hq j hj
      rw [<- hu,<- hcell _ _ h1 h2,h3]
    · rw [List.getElem?_eq_none (by simpa using hj)] at hu
      cases hu
  · obtain ⟨q,hq',rfl⟩:=List.mem_map.1 hu
    obtain ⟨h1,h2,_⟩:=hq q (List.mem_range.1 hq')
    exact hone _ _ h1 h2
  · have hlt:=kq2 hi hj
    refine ⟨vs i j,?_,hone i j hi hj,hrep i j hi hj⟩
    rw [List.getElem?_map,List.getElem?_range hlt]
    have e1:(i*sz+j) / sz=i:=by rw [Nat.mul_comm,Nat.mul_add_div hz,Nat.div_eq_of_lt hj,Nat.add_zero]
    have e2:(i*sz+j) % sz=j:=by rw [Nat.mul_comm,Nat.mul_add_mod,Nat.mod_eq_of_lt hj]
    simp [e1,e2]
theorem kpv {w w':World} {row:Option Nat} (hg:w.grownBy w' row) {φ:Nat->Nat} (hf:∀ b,w.heap.size<=b->φ b=0) (hrow:∀ b,row=some b->∀ o',o' < φ b->w'.cell? ⟨b,o',none⟩=w.cell? ⟨b,o',none⟩) (b o':Nat) (h:o' < φ b):w'.cell? ⟨b,o',none⟩=w.cell? ⟨b,o',none⟩:=by
 have hb:b < w.heap.size:=by
  rcases Nat.lt_or_ge b w.heap.size with h1 | h1
  · exact h1
  · rw [hf b h1] at h;omega
 by_cases he:row=some b
 · exact hrow b he o' h
 · exact World.cell?_of_block (hg.block b hb (fun e=>he e.symm))
theorem kye (h:Rep N g vw a) {t e:TypeId} {x y:Operand} (ho:o.op=.call { callee:=.builtin .append,args:=#[x,y],argTypes:=#[t,t] }) {ti:TypeInfo} {z:Value} (ht:P.underlying t=some (.slice e)) (hi:P.info? e=some ti) (hz:ti.zero=some z)
 (hzs:z.cells.size=ti.size) (hsz:0 < ti.size) {nk:Nat} (hnk:¬ g.us nk) {rows new:List (List D)} (kill:List Nat) {u:Value} (hx:a.eval x=u) (hxr:RepD g.w g.φ (.list ti.size rows) u)
 (hown:(kill=[]∧u=.slice none 0 0∧rows=[])∨(∃ κ,kill=[κ]∧g.gk κ=some (e,ti.size,u)))
 (hy:RepD g.w g.φ (.list ti.size new) (a.eval y)) (hne:new ≠ []) (hb:(rows.length+new.length)*(ti.bytes+1)<=140737488355328) :
 OpOk P o a g (.inl ⟨.one (.own nk e ti.size (rows++new)),[],kill,[nk]⟩):=by
 obtain ⟨b,off,c,news,he,hnl,hnφ,hnc,hn1,hnr⟩:=hy.cells_of hne hsz
 have hrow:∃ xs,g.w.ownsRow 0 e ti.size u rows.length xs∧∀ b,u.ownBlock=some b->g.φ b=rows.length*ti.size:=by
  rcases hown with ⟨_,rfl,rfl⟩ | ⟨κ,_,hκ⟩
  · exact ⟨[],World.ownsRow_nil _ _ _ _,fun b hb=>by cases hb⟩
  · obtain ⟨n,xs,h1,h2⟩:=(h.own κ _ _ _ hκ).row
    have hn:n=rows.length:=by
     rcases h1.2 with ⟨e1,e2⟩ | ⟨gg,cap,cur,e1,_⟩
     · rw [e1] at hxr
       cases hxr
       exact e2
     · rw [e1] at hxr
       cases hxr<;>rfl
    rw [<- hn]
    exact ⟨xs,h1,h2⟩
 obtain ⟨xs,hox,hoφ⟩:=hrow
 have hmax:rows.length+new.length<=maxLen:=by
  have:=Nat.le_trans (Nat.le_mul_of_pos_right (rows.length+new.length) (show 0 < ti.bytes+1 by omega)) hb
  unfold maxLen
  omega
 have hby:(rows.length+new.length)*ti.bytes<=140737488355328:=Nat.le_trans (Nat.mul_le_mul_left _ (by omega)) hb
 intro K Q hK
 obtain ⟨v',w',hr,hown',hgr,hnil⟩:=run_append_own (P:=P) g.w 0 t o.type e ti z ti.size ti.bytes ht hi hz rfl rfl hzs hsz u rows.length xs hox ⟨b,off,none⟩ new.length c news hnl
  (fun j q hq=>by rw [kcz];exact hnc j q hq) hn1 hmax hby (Nat.zero_le _)
 have hlen:(rows++new).length=rows.length+new.length:=List.length_append
 have key:(∀ q,v'.ownBlock=some q->q=g.w.heap.size∨u.ownBlock=some q)∧(∀ q,u.ownBlock=some q->∀ o',o' < rows.length*ti.size->w'.cell? ⟨q,o',none⟩=g.w.cell? ⟨q,o',none⟩):=by
  rcases hox.2 with ⟨e1,e2⟩ | ⟨gg,cap,cur,e1,_,hgg,hgc,hgm,hgs,hgt⟩
  · subst e1
    have hm:0 < new.length:=by cases new with | nil=>exact absurd rfl hne | cons x xs=>simp
    rw [e2,Nat.zero_add] at hmax hby
    have hr2:=run_append_nil (P:=P) g.w t o.type e ti z ht hi hz ⟨b,off,none⟩ new.length c news hnl (fun j q hq=>by rw [kcz];exact hnc j q hq) hm (by unfold maxLen at hmax;omega) (by omega)
    rw [hr] at hr2
    injection hr2 with e3 e4
    subst e3
    exact ⟨fun q hq=>by cases hq;exact .inl rfl,fun q hq=>by cases hq⟩
  · subst e1
    by_cases hroom:rows.length+new.length<=cap
    · have hfit:rows.length*ti.size+news.length<=cur.size:=by rw [hnl,hgs,<- Nat.add_mul];exact Nat.mul_le_mul_right _ hroom
      have hr2:=run_append_room (P:=P) g.w t o.type e ti ht hi gg rows.length cap cur hgg ⟨b,off,none⟩ new.length c news hnl (fun j q hq=>by rw [kcz];exact hnc j q hq) hn1 hroom hfit
      rw [hr] at hr2
      injection hr2 with e3 e4
      subst e3
      refine ⟨fun q hq=>.inr hq,fun q hq o' ho'=>?_⟩
      cases hq
      have hlt:o' < xs.length:=by rw [hox.1];exact ho'
      have h1:=hown'.cells (g:=gg) rfl o' xs[o'] (by rw [List.getElem?_append_left hlt,List.getElem?_eq_getElem hlt])
      have h2:=hox.cells (g:=gg) rfl o' xs[o'] (List.getElem?_eq_getElem hlt)
      rw [kcz,Nat.zero_add] at h1 h2
      rw [h1,h2]
    · have hr2:=run_append_grow (P:=P) g.w t o.type e ti z ht hi hz ⟨gg,0,none⟩ rows.length cap xs hox.1 (fun j q hq=>hox.cells (g:=gg) rfl j q hq) ⟨b,off,none⟩ new.length c news hnl (fun j q hq=>by rw [kcz];exact hnc j q hq) (by omega)
       (by unfold maxLen at hmax;omega) (growslice_fits (by omega) hby)
      rw [hr] at hr2
      injection hr2 with e3 e4
      subst e3
      subst e4
      refine ⟨fun q hq=>by cases hq;exact .inl rfl,fun q hq o' ho'=>?_⟩
      cases hq
      exact World.cell?_of_block (Go.heap_alloc_old g.w.drew _ (Array.getElem?_eq_some_iff.1 hgg).1)
 obtain ⟨kb,kc⟩:=key
 have hub:∀ q,u.ownBlock=some q->q < g.w.heap.size:=fun q hq=>(hox.lt q hq).2
 have hφle:∀ q,g.φ q<=(if v'.ownBlock=some q then (rows.length+new.length)*ti.size else g.φ q):=fun q=>by
  split
  · rename_i hq
    rcases kb q hq with h1 | h1
    · rw [h1,h.fresh _ (Nat.le_refl _)];exact Nat.zero_le _
    · rw [hoφ q h1];exact Nat.mul_le_mul_right _ (by omega)
  · exact Nat.le_refl _
 have hcell:∀ q o',o' < g.φ q->w'.cell? ⟨q,o',none⟩=g.w.cell? ⟨q,o',none⟩ :=
  kpv hgr h.fresh (fun q hq o' ho'=>kc q hq o' (by rw [<- hoφ q hq];exact ho'))
 have hex:Ext g.w g.φ w' (fun q=>if v'.ownBlock=some q then (rows.length+new.length)*ti.size else g.φ q):=⟨hcell,hφle⟩
 refine kdl (v:=v') ?_ (hK _ _ (RepP.ofBorn h w' (fun q=>if v'.ownBlock=some q then (rows.length+new.length)*ti.size else g.φ q) nk e ti.size (rows++new) kill v' u.ownBlock hnk _ _ hown' (fun q hq=>if_pos hq) hgr ?_ ?_ (fun q hq=>if_neg hq) hφle hcell ?_))
 · simp only [execOp,ho,resolve,invoke,builtin,Sem.run_bind,Sem.run_pure,Result.andThen_ok,List.map_toArray,List.map_cons,List.map_nil,hx,he,hr]
 · intro q hq
   rcases hown with ⟨_,rfl,_⟩ | ⟨κ,hk,hκ⟩
   · cases hq
   · exact ⟨κ,e,ti.size,u,hk,hκ,hq⟩
 · intro q hq
   refine ⟨(hown'.lt q hq).2,?_⟩
   rcases kb q hq with h1 | h1
   · exact .inl (by omega)
   · exact .inr h1
 · refine RepD.of_owned (e:=e) (xs:=xs++news) (by rw [hlen];exact hown') (fun q hq=>by rw [hlen];simp only [if_pos hq];exact Nat.le_refl _) (fun i j hi' hj=>?_)
   by_cases hin:i < rows.length
   · have hne2:rows ≠ []:=fun e1=>by rw [e1] at hin;simp at hin
     obtain ⟨b2,off2,c2,news2,he2,hnl2,hnφ2,hnc2,hn12,hnr2⟩:=hxr.cells_of hne2 hsz
     obtain ⟨q,hq,hq1,hq2⟩:=hnr2 i j hin hj
     have hlt:=kq2 hin hj
     have hlx:i*ti.size+j < xs.length:=by rw [hox.1];exact hlt
     refine ⟨q,?_,hq1,?_⟩
     · rw [List.getElem?_append_left hlx]
       have h1:=hnc2 _ q hq
       rcases hox.2 with ⟨e1,e2⟩ | ⟨gg,cap,cur,e1,_⟩
       · rw [e2] at hin;omega
       · have h2:=hox.cells (g:=gg) (by rw [e1];rfl) (i*ti.size+j) xs[i*ti.size+j] (List.getElem?_eq_getElem hlx)
         rw [e1] at he2
         cases he2
         rw [kcz] at h2
         rw [h2] at h1
         rw [List.getElem?_eq_getElem hlx]
         exact h1
     · rw [kdC _ _ _ _ hin]
       exact hq2.mono hex
   · have hi2:i - rows.length < new.length:=by rw [hlen] at hi';omega
     obtain ⟨q,hq,hq1,hq2⟩:=hnr (i - rows.length) j hi2 hj
     refine ⟨q,?_,hq1,?_⟩
     · have e1:i*ti.size+j=rows.length*ti.size+((i - rows.length)*ti.size+j):=by
        have:i*ti.size=rows.length*ti.size+(i - rows.length)*ti.size:=by rw [<- Nat.add_mul];congr 1;omega
        omega
       rw [List.getElem?_append_right (by rw [hox.1];omega),hox.1,e1,Nat.add_sub_cancel_left]
       exact hq
     · rw [kdb _ _ _ _ (by omega)]
       exact hq2.mono hex
end
end Go.Proofs.YtaphnbaiamnfpaaGreatDoor.Ps
